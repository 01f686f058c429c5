/- What the law asks of an error (said), walked. ScriptFirst's walk. Conditions: those that each theorem states. -/
import Derived.Test.YtkfjjmmpbfjhaaaGreatDoorScrE2
import Derived.Test.YtkfjjmmpbfjhaaaGreatDoorScrZ2
namespace Go.Proofs.YtkfjjmmpbfjhaaaGreatDoor.Tells
open Go.RowKit Go.Proofs.YtkfjjmmpbfjhaaaGreatDoor.Facts Go.Proofs.YtkfjjmmpbfjhaaaGreatDoor.PScriptActs Go.Proofs.YtkfjjmmpbfjhaaaGreatDoorW.PrintWords Go.Proofs.YtkfjjmmpbfjhaaaGreatDoorW.PrintLast Go.Proofs.YtkfjjmmpbfjhaaaGreatDoorW.PrintMore
attribute [local go_sem] max2_int min2_int max_two min_two max_three min_three max_four min_four
set_option linter.unusedVariables false
set_option linter.unusedSimpArgs false
set_option maxHeartbeats 4000000 in
theorem said_nil (w : World) : Calls Tryz.prog 21 #[.nilIface] w fun e w' => e = .returned (.tuple #[.int .i64 0, .int .i64 0, .bool true]) ∧ w' = w := by
  go_enter Tryz.func21, Tryz.ntmps21
  go_wp2_with fail
  go_ret3
  exact ⟨rfl, rfl⟩
/-- the variables that errors.As and Unwrap read -/
structure Errs (w : World) : Prop where
  ety : w.cell? ⟨1, 0, none⟩ = some (.iface 127 (.agg #[.pointer (some ⟨16, 45, none⟩)]))
  ref : ∃ ra, w.cell? ⟨0, 0, none⟩ = some (.iface 195 (.pointer (some ra)))
theorem Errs.below {w w' : World} (h : Errs w) (hb : Below w.heap.size w w') : Errs w' := by
  obtain ⟨ra, h2⟩ := h.ref
  exact ⟨pw_cell_below hb h.ety, ra, pw_cell_below hb h2⟩
theorem eqlRef (ra : Addr) (w : World) : (binOp .eql 45 (.iface 195 (.pointer (some ra))) (.iface 195 (.pointer (some ra)))).run Tryz.prog w = .ok (.bool true) w := by
  obtain ⟨i, hi⟩ := Option.isSome_iff_exists.1 (show (Tryz.prog.info? 195).isSome = true by kernel_rfl)
  obtain ⟨j, hj⟩ := Option.isSome_iff_exists.1 (show (Tryz.prog.info? 197).isSome = true by kernel_rfl)
  have hc : (Tryz.prog.info? 195).map (·.comparable) = some true := by kernel_rfl
  rw [hi] at hc
  exact run_eql_iface_ptr_same w ra Tryz.underlying45 Tryz.underlying195 hi (Option.some.inj hc) hj
theorem methodError (p : Value) (w : World) : (Go.method 333 55 p "Error").run Tryz.prog w = .ok (23, p) w := by kernel_rfl
theorem as_calls (g T : Nat) (w : World) (E : Errs w) (hT : w.heap[T]? = some (.cells #[.pointer none] 55 (0, 0))) : Calls Tryz.prog 41 #[.iface 55 (.pointer (some ⟨g, 0, none⟩)), .iface 88 (.pointer (some ⟨T, 0, none⟩))] w fun e w' => e = .returned (.bool true) ∧ Wrote w T (.cells #[.pointer (some ⟨g, 0, none⟩)] 55 (0, 0)) w' := by
  refine (as_hit ⟨g, 0, none⟩ ⟨T, 0, none⟩ (.pointer none) w E.ety (by rw [blk_cell hT]; rfl) (blk_frozen hT _)).mono ?_
  rintro e w' ⟨rfl, rfl⟩
  refine ⟨rfl, ?_⟩
  have ha : ∀ (W : World) o, Below W.heap.size W (W.alloc o) := fun W o => below_alloc (Below.refl _ _) _
  exact (((((Wrote.of (ha w _) hT).then (ha _ _)).then (ha _ _)).then (ha _ _)).put 0 (.pointer (some ⟨g, 0, none⟩)))
set_option maxHeartbeats 4000000 in
set_option maxRecDepth 100000 in
theorem said_calls (g : Nat) (l c : Int) (hl : inI l) (hc : inI c) (hc0 : c ≠ 0) (w : World) (T : Pow w) (E : Errs w) (hgb : w.heap[g]? = some (.cells #[.int .i64 l, .int .i64 c] 80 (0, 0))) : Calls Tryz.prog 21 #[.iface 55 (.pointer (some ⟨g, 0, none⟩))] w fun e w' => e = .returned (.tuple #[.int .i64 l, .int .i64 c, .bool true]) ∧ Below w.heap.size w w' := by
  have HL := Aside0.mk (And.intro hl hc)
  have HE := Aside0.mk (And.intro T E)
  have HG := Aside0.mk hgb
  have hsl : (itoaB l).size ≤ 21 := by have := num_len l hl; have h2 : (itoaB l).data.toList.length = (itoaB l).size := bl_len _; omega
  have hsc : (itoaB c).size ≤ 21 := by have := num_len c hc; have h2 : (itoaB c).data.toList.length = (itoaB c).size := bl_len _; omega
  clear hl hc T E hgb
  go_enter Tryz.func21, Tryz.ntmps21
  go_wp2_with fail
  obtain ⟨T, hT⟩ : ∃ T, T = w.heap.size := ⟨_, rfl⟩
  obtain ⟨w1, hw1⟩ : ∃ w1, w1 = w.alloc (.cells #[.pointer none] 55 (0, 0)) := ⟨_, rfl⟩
  have H1 : Aside0 (Below w.heap.size w w1 ∧ w1.heap[T]? = some (.cells #[.pointer none] 55 (0, 0)) ∧ w.heap.size ≤ T ∧ g ≠ T) := ⟨by
    have := blk_lt HG.out
    rw [hw1, hT]
    exact ⟨below_alloc (Below.refl _ _) _, blk_new w _, Nat.le_refl _, by omega⟩⟩
  have e1 : (w.alloc (.cells #[.pointer none] 55)) = w1 := hw1.symm
  rw [e1, ← hT]
  clear e1 hw1 hT
  refine (as_calls g T w1 (HE.out.2.below H1.out.1) H1.out.2.1).mono ?_
  rintro e w2 ⟨rfl, hw2⟩
  have H2 : Aside0 (Below w.heap.size w w2 ∧ w2.heap[T]? = some (.cells #[.pointer (some ⟨g, 0, none⟩)] 55 (0, 0)) ∧ w2.heap[g]? = some (.cells #[.int .i64 l, .int .i64 c] 80 (0, 0))) := ⟨by
    have hg1 := (H1.out.1.block _ (blk_lt HG.out)).trans HG.out
    exact ⟨H1.out.1.trans (hw2.below H1.out.2.2.1 H1.out.1.size), hw2.at_, (hw2.block _ (blk_lt hg1) H1.out.2.2.2).trans hg1⟩⟩
  obtain ⟨ra, hra⟩ := (HE.out.2.below H2.out.1).ref
  have HRA := Aside0.mk hra
  have kt : w2.cell? ⟨T, 0, none⟩ = some (.pointer (some ⟨g, 0, none⟩)) := by rw [blk_cell H2.out.2.1]; rfl
  clear hw2 hra
  go_wp2_with fail
  clear kt
  refine region_facts (ws := []) (G := fun _ w' => Aside0 (Below w2.heap.size w2 w')) (φs := [Fact.eq (.pointer (some ⟨g, 0, none⟩)), Fact.eq (.pointer (some ⟨g, 0, none⟩)), Fact.eq (.pointer (some ⟨g, 0, none⟩)), Fact.eq (.int .i64 l), Fact.eq (.string (itoaB l)), Fact.eq (.string (({ data := #[108, 105, 110, 101, 32] } : ByteArray) ++ itoaB l)), Fact.eq (.string ((({ data := #[108, 105, 110, 101, 32] } : ByteArray) ++ itoaB l) ++ { data := #[58, 32, 99, 111, 100, 101, 32] })), Fact.eq (.pointer (some ⟨g, 0, none⟩)), Fact.eq (.pointer (some ⟨g, 0, none⟩)), Fact.eq (.pointer (some ⟨g, 1, none⟩)), Fact.eq (.int .i64 c), Fact.eq (.int .i64 c), Fact.eq (.string (itoaB c)), Fact.eq (.string (errS l c)), Fact.eq (.string (errS l c))]) (n := 15) (m := 64) (by kernel_rfl) (by kernel_rfl) rfl rfl (by kernel_rfl) (fun _ _ _ h hb => ⟨below_then h.out h.out.size hb⟩) (⟨below_drew (Below.refl _ _)⟩) ⟨?ou0, ?ou1, ?ou2, ?ou3, ?ou4, ?ou5, ?ou6, ?ou7, ?ou8, ?ou9, ?ou10, ?ou11, ?ou12, ?ou13, ?ou14, trivial⟩ ?finu
  case ou0 =>
    refine ask_step [.fix 5 _] rfl 17 rfl (.inl rfl) ⟨⟨by kernel_rfl, by conv => lhs; whnf⟩, trivial⟩ 0 0 (by kernel_rfl) ?_
    dsimp only [Has, Fact.eq]
    intro e ρ w' hp hq hc hf hg hG h5
    have hTb := (hG.out.block _ (blk_lt H2.out.2.1)).trans H2.out.2.1
    have c0 : w'.cell? ⟨T, 0, none⟩ = some (.pointer (some ⟨g, 0, none⟩)) := by rw [blk_cell hTb]; rfl
    refine ⟨_, w', ?_, rfl, Below.refl _ _⟩
    go_simp
    all_goals (first | done | rfl | with_reducible rfl)
  case ou1 =>
    refine ask_val [.op 17 0 (Fact.eq _)] rfl 18 rfl (.inl rfl) ⟨⟨by kernel_rfl, rfl⟩, trivial⟩ ?_
    dsimp only [Has, Fact.eq]
    intro e ρ w' hc hf hg hG h17
    go_simp
    all_goals (with_reducible rfl)
  case ou2 =>
    refine ask_val [.op 18 1 (Fact.eq _)] rfl 19 rfl (.inl rfl) ⟨⟨by kernel_rfl, rfl⟩, trivial⟩ ?_
    dsimp only [Has, Fact.eq]
    intro e ρ w' hc hf hg hG h18
    go_simp
    all_goals (first | done | rfl | with_reducible rfl)
  case ou3 =>
    refine ask_step [.op 19 2 (Fact.eq _)] rfl 20 rfl (.inl rfl) ⟨⟨by kernel_rfl, rfl⟩, trivial⟩ 0 0 (by kernel_rfl) ?_
    dsimp only [Has, Fact.eq]
    intro e ρ w' hp hq hc hf hg hG h19
    have hgk := (hG.out.block _ (blk_lt H2.out.2.2)).trans H2.out.2.2
    have c0 : w'.cell? ⟨g, 0, none⟩ = some (.int .i64 l) := by rw [blk_cell hgk]; rfl
    refine ⟨_, w', ?_, rfl, Below.refl _ _⟩
    go_simp
    all_goals (first | done | rfl | with_reducible rfl)
  case ou4 =>
    refine ask_call [.op 20 3 (Fact.eq _)] rfl 21 rfl (.inl rfl) ⟨⟨by kernel_rfl, rfl⟩, trivial⟩ 0 0 (by kernel_rfl) 33 Tryz.func33 (by kernel_rfl) rfl rfl ?_
    dsimp only [Has, Fact.eq]
    intro e ρ w' hp hq hc hf hg hG h20
    refine ⟨#[.int .i64 l], by simp only [List.map_toArray, List.map_cons, List.map_nil, h20], (number_calls l HL.out.1.1 HL.out.1.2 w' (HE.out.1.below (H2.out.1.trans (below_le hG.out H2.out.1.size)))).mono ?_⟩
    rintro en w2 ⟨rfl, hb2⟩
    exact ⟨_, rfl, rfl, hb2⟩
  case ou5 =>
    refine ask_val [.op 21 4 (Fact.eq _)] rfl 22 rfl (.inl rfl) ⟨⟨by kernel_rfl, rfl⟩, trivial⟩ ?_
    dsimp only [Has, Fact.eq]
    intro e ρ w' hc hf hg hG h21
    go_simp
    all_goals (first | done | omega | rfl | (rw [if_neg (by omega)]; rfl))
  case ou6 =>
    refine ask_val [.op 22 5 (Fact.eq _)] rfl 23 rfl (.inl rfl) ⟨⟨by kernel_rfl, rfl⟩, trivial⟩ ?_
    dsimp only [Has, Fact.eq]
    intro e ρ w' hc hf hg hG h22
    go_simp
    all_goals (first | done | omega | rfl | (rw [if_neg (by omega)]; rfl))
  case ou7 =>
    refine ask_step [.fix 5 _] rfl 24 rfl (.inl rfl) ⟨⟨by kernel_rfl, by conv => lhs; whnf⟩, trivial⟩ 0 0 (by kernel_rfl) ?_
    dsimp only [Has, Fact.eq]
    intro e ρ w' hp hq hc hf hg hG h5
    have hTb := (hG.out.block _ (blk_lt H2.out.2.1)).trans H2.out.2.1
    have c0 : w'.cell? ⟨T, 0, none⟩ = some (.pointer (some ⟨g, 0, none⟩)) := by rw [blk_cell hTb]; rfl
    refine ⟨_, w', ?_, rfl, Below.refl _ _⟩
    go_simp
    all_goals (first | done | rfl | with_reducible rfl)
  case ou8 =>
    refine ask_val [.op 24 7 (Fact.eq _)] rfl 25 rfl (.inl rfl) ⟨⟨by kernel_rfl, rfl⟩, trivial⟩ ?_
    dsimp only [Has, Fact.eq]
    intro e ρ w' hc hf hg hG h24
    go_simp
    all_goals (with_reducible rfl)
  case ou9 =>
    refine ask_val [.op 25 8 (Fact.eq _)] rfl 26 rfl (.inl rfl) ⟨⟨by kernel_rfl, rfl⟩, trivial⟩ ?_
    dsimp only [Has, Fact.eq]
    intro e ρ w' hc hf hg hG h25
    go_simp
    all_goals (first | done | rfl | with_reducible rfl)
  case ou10 =>
    refine ask_step [.op 26 9 (Fact.eq _)] rfl 27 rfl (.inl rfl) ⟨⟨by kernel_rfl, rfl⟩, trivial⟩ 0 0 (by kernel_rfl) ?_
    dsimp only [Has, Fact.eq]
    intro e ρ w' hp hq hc hf hg hG h26
    have hgk := (hG.out.block _ (blk_lt H2.out.2.2)).trans H2.out.2.2
    have c0 : w'.cell? ⟨g, 1, none⟩ = some (.int .i64 c) := by rw [blk_cell hgk]; rfl
    refine ⟨_, w', ?_, rfl, Below.refl _ _⟩
    go_simp
    all_goals (first | done | rfl | with_reducible rfl)
  case ou11 =>
    refine ask_call [.op 27 10 (Fact.eq _)] rfl 28 rfl (.inl rfl) ⟨⟨by kernel_rfl, rfl⟩, trivial⟩ 0 0 (by kernel_rfl) 12 Tryz.func12 (by kernel_rfl) rfl rfl ?_
    dsimp only [Has, Fact.eq]
    intro e ρ w' hp hq hc hf hg hG h27
    refine ⟨#[.int .i64 c], by simp only [List.map_toArray, List.map_cons, List.map_nil, h27], (num_calls12 c w').mono ?_⟩
    rintro en w2 ⟨rfl, hb2⟩
    exact ⟨_, rfl, rfl, hb2⟩
  case ou12 =>
    refine ask_call [.op 28 11 (Fact.eq _)] rfl 29 rfl (.inl rfl) ⟨⟨by kernel_rfl, rfl⟩, trivial⟩ 0 0 (by kernel_rfl) 33 Tryz.func33 (by kernel_rfl) rfl rfl ?_
    dsimp only [Has, Fact.eq]
    intro e ρ w' hp hq hc hf hg hG h28
    refine ⟨#[.int .i64 c], by simp only [List.map_toArray, List.map_cons, List.map_nil, h28], (number_calls c HL.out.2.1 HL.out.2.2 w' (HE.out.1.below (H2.out.1.trans (below_le hG.out H2.out.1.size)))).mono ?_⟩
    rintro en w2 ⟨rfl, hb2⟩
    exact ⟨_, rfl, rfl, hb2⟩
  case ou13 =>
    refine ask_val [.op 23 6 (Fact.eq _), .op 29 12 (Fact.eq _)] rfl 30 rfl (.inl rfl) ⟨⟨by kernel_rfl, rfl⟩, ⟨by kernel_rfl, rfl⟩, trivial⟩ ?_
    dsimp only [Has, Fact.eq]
    intro e ρ w' hc hf hg hG h23 h29
    go_simp
    all_goals (first | done | omega | rfl | (rw [if_neg (by omega)]; rfl))
  case ou14 =>
    refine ask_val [.op 30 13 (Fact.eq _)] rfl 6 rfl (.inl rfl) ⟨⟨by kernel_rfl, rfl⟩, trivial⟩ ?_
    dsimp only [Has, Fact.eq]
    intro e ρ w' hc hf hg hG h30
    go_simp
    all_goals (with_reducible rfl)
  case finu =>
    intro w' hG
    refine fin_eq (fin_eq (fin_eq (fin_eq (fin_eq (fin_eq (fin_eq (fin_eq (fin_eq (fin_eq (fin_eq (fin_eq (fin_eq (fin_eq (fin_eq (fin_nil (a' := ?_) ?_ ?_)))))))))))))))
    rotate_left
    · simp only [Act.put, List.setIfInBounds_toArray, List.set_cons_zero, List.set_cons_succ]
      rfl
    have H3 : Aside0 (Below w.heap.size w w' ∧ w'.heap[T]? = some (.cells #[.pointer (some ⟨g, 0, none⟩)] 55 (0, 0)) ∧ w'.heap[g]? = some (.cells #[.int .i64 l, .int .i64 c] 80 (0, 0)) ∧ w'.cell? ⟨0, 0, none⟩ = some (.iface 195 (.pointer (some ra)))) := ⟨H2.out.1.trans (below_le hG.out H2.out.1.size), (hG.out.block _ (blk_lt H2.out.2.1)).trans H2.out.2.1, (hG.out.block _ (blk_lt H2.out.2.2)).trans H2.out.2.2, pw_cell_below hG.out HRA.out⟩
    clear hG HRA
    obtain ⟨w3, hw3⟩ : ∃ w3, w3 = w' := ⟨_, rfl⟩
    rw [← hw3] at H3 ⊢
    clear hw3 H2
    go_wp2_with fail
    refine region_facts (ws := []) (G := fun _ w' => Aside0 (Below w3.heap.size w3 w')) (φs := [Fact.eq (.pointer (some ⟨g, 0, none⟩)), Fact.eq (.pointer (some ⟨g, 0, none⟩)), Fact.eq (.pointer (some ⟨g, 0, none⟩)), Fact.eq (.int .i64 l), Fact.eq (.pointer (some ⟨g, 0, none⟩)), Fact.eq (.pointer (some ⟨g, 0, none⟩)), Fact.eq (.pointer (some ⟨g, 1, none⟩)), Fact.eq (.int .i64 c), Fact.eq (.int .i64 c), Fact.eq (.pointer (some ⟨g, 0, none⟩)), Fact.eq (.pointer (some ⟨g, 0, none⟩)), Fact.eq (.pointer (some ⟨g, 1, none⟩)), Fact.eq (.int .i64 c), Fact.eq (.int .i64 c), Fact.eq (.bool true), Fact.eq (.bool true), Fact.eq (.iface 55 (.pointer (some ⟨g, 0, none⟩))), Fact.eq (.string (errS l c)), Fact.eq (.string (errS l c)), Fact.eq (.bool true), Fact.eq (.bool true), Fact.eq (.bool true), Fact.eq (.pointer (some ⟨g, 0, none⟩)), Fact.eq (.string (errS l c)), Fact.eq (.string (errS l c)), Fact.eq (.bool true), Fact.eq (.bool true), Fact.eq (.bool true), Fact.eq (.pointer (some ⟨g, 0, none⟩)), Fact.eq (.iface 195 (.pointer (some ra))), Fact.eq (.iface 195 (.pointer (some ra))), Fact.eq (.bool true), Fact.eq (.bool true), Fact.eq (.int .i64 l), Fact.eq (.int .i64 c), Fact.eq (.bool true)]) (n := 36) (m := 64) (by kernel_rfl) (by kernel_rfl) rfl rfl (by kernel_rfl) (fun _ _ _ h hb => ⟨below_then h.out h.out.size hb⟩) (⟨below_drew (Below.refl _ _)⟩) ⟨?ov0, ?ov1, ?ov2, ?ov3, ?ov4, ?ov5, ?ov6, ?ov7, ?ov8, ?ov9, ?ov10, ?ov11, ?ov12, ?ov13, ?ov14, ?ov15, ?ov16, ?ov17, ?ov18, ?ov19, ?ov20, ?ov21, ?ov22, ?ov23, ?ov24, ?ov25, ?ov26, ?ov27, ?ov28, ?ov29, ?ov30, ?ov31, ?ov32, ?ov33, ?ov34, ?ov35, trivial⟩ ?finv
    case ov0 =>
      refine ask_step [.fix 5 _] rfl 31 rfl (.inl rfl) ⟨⟨by kernel_rfl, by conv => lhs; whnf⟩, trivial⟩ 0 0 (by kernel_rfl) ?_
      dsimp only [Has, Fact.eq]
      intro e ρ w' hp hq hc hf hg hG h5
      have hTb := (hG.out.block _ (blk_lt H3.out.2.1)).trans H3.out.2.1
      have c0 : w'.cell? ⟨T, 0, none⟩ = some (.pointer (some ⟨g, 0, none⟩)) := by rw [blk_cell hTb]; rfl
      refine ⟨_, w', ?_, rfl, Below.refl _ _⟩
      go_simp
      all_goals (first | done | rfl | with_reducible rfl)
    case ov1 =>
      refine ask_val [.op 31 0 (Fact.eq _)] rfl 32 rfl (.inl rfl) ⟨⟨by kernel_rfl, rfl⟩, trivial⟩ ?_
      dsimp only [Has, Fact.eq]
      intro e ρ w' hc hf hg hG h31
      go_simp
      all_goals (with_reducible rfl)
    case ov2 =>
      refine ask_val [.op 32 1 (Fact.eq _)] rfl 33 rfl (.inl rfl) ⟨⟨by kernel_rfl, rfl⟩, trivial⟩ ?_
      dsimp only [Has, Fact.eq]
      intro e ρ w' hc hf hg hG h32
      go_simp
      all_goals (first | done | rfl | with_reducible rfl)
    case ov3 =>
      refine ask_step [.op 33 2 (Fact.eq _)] rfl 34 rfl (.inl rfl) ⟨⟨by kernel_rfl, rfl⟩, trivial⟩ 0 0 (by kernel_rfl) ?_
      dsimp only [Has, Fact.eq]
      intro e ρ w' hp hq hc hf hg hG h33
      have hgk := (hG.out.block _ (blk_lt H3.out.2.2.1)).trans H3.out.2.2.1
      have c0 : w'.cell? ⟨g, 0, none⟩ = some (.int .i64 l) := by rw [blk_cell hgk]; rfl
      refine ⟨_, w', ?_, rfl, Below.refl _ _⟩
      go_simp
      all_goals (first | done | rfl | with_reducible rfl)
    case ov4 =>
      refine ask_step [.fix 5 _] rfl 35 rfl (.inl rfl) ⟨⟨by kernel_rfl, by conv => lhs; whnf⟩, trivial⟩ 0 0 (by kernel_rfl) ?_
      dsimp only [Has, Fact.eq]
      intro e ρ w' hp hq hc hf hg hG h5
      have hTb := (hG.out.block _ (blk_lt H3.out.2.1)).trans H3.out.2.1
      have c0 : w'.cell? ⟨T, 0, none⟩ = some (.pointer (some ⟨g, 0, none⟩)) := by rw [blk_cell hTb]; rfl
      refine ⟨_, w', ?_, rfl, Below.refl _ _⟩
      go_simp
      all_goals (first | done | rfl | with_reducible rfl)
    case ov5 =>
      refine ask_val [.op 35 4 (Fact.eq _)] rfl 36 rfl (.inl rfl) ⟨⟨by kernel_rfl, rfl⟩, trivial⟩ ?_
      dsimp only [Has, Fact.eq]
      intro e ρ w' hc hf hg hG h35
      go_simp
      all_goals (with_reducible rfl)
    case ov6 =>
      refine ask_val [.op 36 5 (Fact.eq _)] rfl 37 rfl (.inl rfl) ⟨⟨by kernel_rfl, rfl⟩, trivial⟩ ?_
      dsimp only [Has, Fact.eq]
      intro e ρ w' hc hf hg hG h36
      go_simp
      all_goals (first | done | rfl | with_reducible rfl)
    case ov7 =>
      refine ask_step [.op 37 6 (Fact.eq _)] rfl 38 rfl (.inl rfl) ⟨⟨by kernel_rfl, rfl⟩, trivial⟩ 0 0 (by kernel_rfl) ?_
      dsimp only [Has, Fact.eq]
      intro e ρ w' hp hq hc hf hg hG h37
      have hgk := (hG.out.block _ (blk_lt H3.out.2.2.1)).trans H3.out.2.2.1
      have c0 : w'.cell? ⟨g, 1, none⟩ = some (.int .i64 c) := by rw [blk_cell hgk]; rfl
      refine ⟨_, w', ?_, rfl, Below.refl _ _⟩
      go_simp
      all_goals (first | done | rfl | with_reducible rfl)
    case ov8 =>
      refine ask_call [.op 38 7 (Fact.eq _)] rfl 39 rfl (.inl rfl) ⟨⟨by kernel_rfl, rfl⟩, trivial⟩ 0 0 (by kernel_rfl) 12 Tryz.func12 (by kernel_rfl) rfl rfl ?_
      dsimp only [Has, Fact.eq]
      intro e ρ w' hp hq hc hf hg hG h38
      refine ⟨#[.int .i64 c], by simp only [List.map_toArray, List.map_cons, List.map_nil, h38], (num_calls12 c w').mono ?_⟩
      rintro en w2 ⟨rfl, hb2⟩
      exact ⟨_, rfl, rfl, hb2⟩
    case ov9 =>
      refine ask_step [.fix 5 _] rfl 40 rfl (.inl rfl) ⟨⟨by kernel_rfl, by conv => lhs; whnf⟩, trivial⟩ 0 0 (by kernel_rfl) ?_
      dsimp only [Has, Fact.eq]
      intro e ρ w' hp hq hc hf hg hG h5
      have hTb := (hG.out.block _ (blk_lt H3.out.2.1)).trans H3.out.2.1
      have c0 : w'.cell? ⟨T, 0, none⟩ = some (.pointer (some ⟨g, 0, none⟩)) := by rw [blk_cell hTb]; rfl
      refine ⟨_, w', ?_, rfl, Below.refl _ _⟩
      go_simp
      all_goals (first | done | rfl | with_reducible rfl)
    case ov10 =>
      refine ask_val [.op 40 9 (Fact.eq _)] rfl 41 rfl (.inl rfl) ⟨⟨by kernel_rfl, rfl⟩, trivial⟩ ?_
      dsimp only [Has, Fact.eq]
      intro e ρ w' hc hf hg hG h40
      go_simp
      all_goals (with_reducible rfl)
    case ov11 =>
      refine ask_val [.op 41 10 (Fact.eq _)] rfl 42 rfl (.inl rfl) ⟨⟨by kernel_rfl, rfl⟩, trivial⟩ ?_
      dsimp only [Has, Fact.eq]
      intro e ρ w' hc hf hg hG h41
      go_simp
      all_goals (first | done | rfl | with_reducible rfl)
    case ov12 =>
      refine ask_step [.op 42 11 (Fact.eq _)] rfl 43 rfl (.inl rfl) ⟨⟨by kernel_rfl, rfl⟩, trivial⟩ 0 0 (by kernel_rfl) ?_
      dsimp only [Has, Fact.eq]
      intro e ρ w' hp hq hc hf hg hG h42
      have hgk := (hG.out.block _ (blk_lt H3.out.2.2.1)).trans H3.out.2.2.1
      have c0 : w'.cell? ⟨g, 1, none⟩ = some (.int .i64 c) := by rw [blk_cell hgk]; rfl
      refine ⟨_, w', ?_, rfl, Below.refl _ _⟩
      go_simp
      all_goals (first | done | rfl | with_reducible rfl)
    case ov13 =>
      refine ask_call [.op 43 12 (Fact.eq _)] rfl 44 rfl (.inl rfl) ⟨⟨by kernel_rfl, rfl⟩, trivial⟩ 0 0 (by kernel_rfl) 12 Tryz.func12 (by kernel_rfl) rfl rfl ?_
      dsimp only [Has, Fact.eq]
      intro e ρ w' hp hq hc hf hg hG h43
      refine ⟨#[.int .i64 c], by simp only [List.map_toArray, List.map_cons, List.map_nil, h43], (num_calls12 c w').mono ?_⟩
      rintro en w2 ⟨rfl, hb2⟩
      exact ⟨_, rfl, rfl, hb2⟩
    case ov14 =>
      refine ask_val [.op 44 13 (Fact.eq _)] rfl 45 rfl (.inl rfl) ⟨⟨by kernel_rfl, rfl⟩, trivial⟩ ?_
      dsimp only [Has, Fact.eq]
      intro e ρ w' hc hf hg hG h44
      go_simp
      all_goals (first | done | rfl | with_reducible rfl)
    case ov15 =>
      refine ask_val [.op 45 14 (Fact.eq _)] rfl 46 rfl (.inl rfl) ⟨⟨by kernel_rfl, rfl⟩, trivial⟩ ?_
      dsimp only [Has, Fact.eq]
      intro e ρ w' hc hf hg hG h45
      go_simp
      all_goals (with_reducible rfl)
    case ov16 =>
      refine ask_val [.fix 0 _] rfl 47 rfl (.inr ⟨15, true, rfl, by kernel_rfl, rfl⟩) ⟨⟨by kernel_rfl, by conv => lhs; whnf⟩, trivial⟩ ?_
      dsimp only [Has, Fact.eq]
      intro e ρ w' hc hf hg hG h0
      go_simp
      all_goals (with_reducible rfl)
    case ov17 =>
      refine ask_enter [.op 47 16 (Fact.eq _)] rfl 48 rfl (.inr ⟨15, true, rfl, by kernel_rfl, rfl⟩) ⟨⟨by kernel_rfl, rfl⟩, trivial⟩ 0 0 (by kernel_rfl) ?_
      dsimp only [Has, Fact.eq]
      intro e ρ w' hp hq hc hf hg hG h47
      have hm := methodError (.pointer (some ⟨g, 0, none⟩)) w'
      have hen := enters (P := Tryz.prog) Tryz.func23 (by kernel_rfl) rfl #[.pointer (some ⟨g, 0, none⟩)] w'
      have hgk := (hG.out.block _ (blk_lt H3.out.2.2.1)).trans H3.out.2.2.1
      refine ⟨23, #[.pointer (some ⟨g, 0, none⟩)], ?_, (lineError_calls g l c HL.out.1 HL.out.2 w' (HE.out.1.below (H3.out.1.trans (below_le hG.out H3.out.1.size))) hgk).mono ?_⟩
      · go_simp
        all_goals (first | done | rfl)
      · rintro en w4 ⟨rfl, hb2⟩
        exact ⟨_, rfl, rfl, hb2⟩
    case ov18 =>
      refine ask_val [.fix 6 _] rfl 49 rfl (.inr ⟨15, true, rfl, by kernel_rfl, rfl⟩) ⟨⟨by kernel_rfl, by conv => lhs; whnf⟩, trivial⟩ ?_
      dsimp only [Has, Fact.eq]
      intro e ρ w' hc hf hg hG h6
      go_simp
      all_goals (with_reducible rfl)
    case ov19 =>
      refine ask_val [.op 48 17 (Fact.eq _), .op 49 18 (Fact.eq _)] rfl 50 rfl (.inr ⟨15, true, rfl, by kernel_rfl, rfl⟩) ⟨⟨by kernel_rfl, rfl⟩, ⟨by kernel_rfl, rfl⟩, trivial⟩ ?_
      dsimp only [Has, Fact.eq]
      intro e ρ w' hc hf hg hG h48 h49
      go_simp
      all_goals (first | done | rfl | with_reducible rfl)
    case ov20 =>
      refine ask_val [.op 46 15 (Fact.eq _), .op 50 19 (Fact.eq _)] rfl 51 rfl (.inl rfl) ⟨⟨by kernel_rfl, rfl⟩, ⟨by kernel_rfl, rfl⟩, trivial⟩ ?_
      dsimp only [Has, Fact.eq]
      intro e ρ w' hc hf hg hG h46 h50
      go_simp
      all_goals (first | done | rfl | with_reducible rfl)
    case ov21 =>
      refine ask_val [.op 51 20 (Fact.eq _)] rfl 52 rfl (.inl rfl) ⟨⟨by kernel_rfl, rfl⟩, trivial⟩ ?_
      dsimp only [Has, Fact.eq]
      intro e ρ w' hc hf hg hG h51
      go_simp
      all_goals (with_reducible rfl)
    case ov22 =>
      refine ask_step [.fix 5 _] rfl 53 rfl (.inr ⟨21, true, rfl, by kernel_rfl, rfl⟩) ⟨⟨by kernel_rfl, by conv => lhs; whnf⟩, trivial⟩ 0 0 (by kernel_rfl) ?_
      dsimp only [Has, Fact.eq]
      intro e ρ w' hp hq hc hf hg hG h5
      have hTb := (hG.out.block _ (blk_lt H3.out.2.1)).trans H3.out.2.1
      have c0 : w'.cell? ⟨T, 0, none⟩ = some (.pointer (some ⟨g, 0, none⟩)) := by rw [blk_cell hTb]; rfl
      refine ⟨_, w', ?_, rfl, Below.refl _ _⟩
      go_simp
      all_goals (first | done | rfl | with_reducible rfl)
    case ov23 =>
      refine ask_call [.op 53 22 (Fact.eq _)] rfl 54 rfl (.inr ⟨21, true, rfl, by kernel_rfl, rfl⟩) ⟨⟨by kernel_rfl, rfl⟩, trivial⟩ 0 0 (by kernel_rfl) 23 Tryz.func23 (by kernel_rfl) rfl rfl ?_
      dsimp only [Has, Fact.eq]
      intro e ρ w' hp hq hc hf hg hG h53
      have hgk := (hG.out.block _ (blk_lt H3.out.2.2.1)).trans H3.out.2.2.1
      refine ⟨#[.pointer (some ⟨g, 0, none⟩)], by simp only [List.map_toArray, List.map_cons, List.map_nil, h53], (lineError_calls g l c HL.out.1 HL.out.2 w' (HE.out.1.below (H3.out.1.trans (below_le hG.out H3.out.1.size))) hgk).mono ?_⟩
      rintro en w2 ⟨rfl, hb2⟩
      exact ⟨_, rfl, rfl, hb2⟩
    case ov24 =>
      refine ask_val [.fix 6 _] rfl 55 rfl (.inr ⟨21, true, rfl, by kernel_rfl, rfl⟩) ⟨⟨by kernel_rfl, by conv => lhs; whnf⟩, trivial⟩ ?_
      dsimp only [Has, Fact.eq]
      intro e ρ w' hc hf hg hG h6
      go_simp
      all_goals (with_reducible rfl)
    case ov25 =>
      refine ask_val [.op 54 23 (Fact.eq _), .op 55 24 (Fact.eq _)] rfl 56 rfl (.inr ⟨21, true, rfl, by kernel_rfl, rfl⟩) ⟨⟨by kernel_rfl, rfl⟩, ⟨by kernel_rfl, rfl⟩, trivial⟩ ?_
      dsimp only [Has, Fact.eq]
      intro e ρ w' hc hf hg hG h54 h55
      go_simp
      all_goals (first | done | rfl | with_reducible rfl)
    case ov26 =>
      refine ask_val [.op 52 21 (Fact.eq _), .op 56 25 (Fact.eq _)] rfl 57 rfl (.inl rfl) ⟨⟨by kernel_rfl, rfl⟩, ⟨by kernel_rfl, rfl⟩, trivial⟩ ?_
      dsimp only [Has, Fact.eq]
      intro e ρ w' hc hf hg hG h52 h56
      go_simp
      all_goals (first | done | rfl | with_reducible rfl)
    case ov27 =>
      refine ask_val [.op 57 26 (Fact.eq _)] rfl 58 rfl (.inl rfl) ⟨⟨by kernel_rfl, rfl⟩, trivial⟩ ?_
      dsimp only [Has, Fact.eq]
      intro e ρ w' hc hf hg hG h57
      go_simp
      all_goals (with_reducible rfl)
    case ov28 =>
      refine ask_step [.fix 5 _] rfl 59 rfl (.inr ⟨27, true, rfl, by kernel_rfl, rfl⟩) ⟨⟨by kernel_rfl, by conv => lhs; whnf⟩, trivial⟩ 0 0 (by kernel_rfl) ?_
      dsimp only [Has, Fact.eq]
      intro e ρ w' hp hq hc hf hg hG h5
      have hTb := (hG.out.block _ (blk_lt H3.out.2.1)).trans H3.out.2.1
      have c0 : w'.cell? ⟨T, 0, none⟩ = some (.pointer (some ⟨g, 0, none⟩)) := by rw [blk_cell hTb]; rfl
      refine ⟨_, w', ?_, rfl, Below.refl _ _⟩
      go_simp
      all_goals (first | done | rfl | with_reducible rfl)
    case ov29 =>
      refine ask_call [.op 59 28 (Fact.eq _)] rfl 60 rfl (.inr ⟨27, true, rfl, by kernel_rfl, rfl⟩) ⟨⟨by kernel_rfl, rfl⟩, trivial⟩ 0 0 (by kernel_rfl) 24 Tryz.func24 (by kernel_rfl) rfl rfl ?_
      dsimp only [Has, Fact.eq]
      intro e ρ w' hp hq hc hf hg hG h59
      refine ⟨#[.pointer (some ⟨g, 0, none⟩)], by simp only [List.map_toArray, List.map_cons, List.map_nil, h59], (unwrap_calls _ (.iface 195 (.pointer (some ra))) w' (pw_cell_below hG.out H3.out.2.2.2)).mono ?_⟩
      rintro en w2 ⟨rfl, rfl⟩
      exact ⟨_, rfl, rfl, Below.refl _ _⟩
    case ov30 =>
      refine ask_step [] rfl 61 rfl (.inr ⟨27, true, rfl, by kernel_rfl, rfl⟩) trivial 0 0 (by kernel_rfl) ?_
      dsimp only [Has, Fact.eq]
      intro e ρ w' hp hq hc hf hg hG 
      have c0 := pw_cell_below hG.out H3.out.2.2.2
      refine ⟨_, w', ?_, rfl, Below.refl _ _⟩
      go_simp
      all_goals (first | done | rfl | with_reducible rfl)
    case ov31 =>
      refine ask_val [.op 60 29 (Fact.eq _), .op 61 30 (Fact.eq _)] rfl 62 rfl (.inr ⟨27, true, rfl, by kernel_rfl, rfl⟩) ⟨⟨by kernel_rfl, rfl⟩, ⟨by kernel_rfl, rfl⟩, trivial⟩ ?_
      dsimp only [Has, Fact.eq]
      intro e ρ w' hc hf hg hG h60 h61
      go_simp
      rw [eqlRef]; rfl
    case ov32 =>
      refine ask_val [.op 58 27 (Fact.eq _), .op 62 31 (Fact.eq _)] rfl 63 rfl (.inl rfl) ⟨⟨by kernel_rfl, rfl⟩, ⟨by kernel_rfl, rfl⟩, trivial⟩ ?_
      dsimp only [Has, Fact.eq]
      intro e ρ w' hc hf hg hG h58 h62
      go_simp
      all_goals (first | done | rfl | with_reducible rfl)
    case ov33 =>
      refine ask_val [.op 34 3 (Fact.eq _)] rfl 2 rfl (.inl rfl) ⟨⟨by kernel_rfl, rfl⟩, trivial⟩ ?_
      dsimp only [Has, Fact.eq]
      intro e ρ w' hc hf hg hG h34
      go_simp
      all_goals (with_reducible rfl)
    case ov34 =>
      refine ask_val [.op 39 8 (Fact.eq _)] rfl 3 rfl (.inl rfl) ⟨⟨by kernel_rfl, rfl⟩, trivial⟩ ?_
      dsimp only [Has, Fact.eq]
      intro e ρ w' hc hf hg hG h39
      go_simp
      all_goals (with_reducible rfl)
    case ov35 =>
      refine ask_val [.op 63 32 (Fact.eq _)] rfl 4 rfl (.inl rfl) ⟨⟨by kernel_rfl, rfl⟩, trivial⟩ ?_
      dsimp only [Has, Fact.eq]
      intro e ρ w' hc hf hg hG h63
      go_simp
      all_goals (with_reducible rfl)
    case finv =>
      intro w' hG
      refine fin_eq (fin_eq (fin_eq (fin_eq (fin_eq (fin_eq (fin_eq (fin_eq (fin_eq (fin_eq (fin_eq (fin_eq (fin_eq (fin_eq (fin_eq (fin_eq (fin_eq (fin_eq (fin_eq (fin_eq (fin_eq (fin_eq (fin_eq (fin_eq (fin_eq (fin_eq (fin_eq (fin_eq (fin_eq (fin_eq (fin_eq (fin_eq (fin_eq (fin_eq (fin_eq (fin_eq (fin_nil (a' := ?_) ?_ ?_))))))))))))))))))))))))))))))))))))
      rotate_left
      · simp only [Act.put, List.setIfInBounds_toArray, List.set_cons_zero, List.set_cons_succ]
        rfl
      have HB : Aside0 (Below w.heap.size w w') := ⟨(H3.out.1.trans (below_le hG.out H3.out.1.size))⟩
      clear hG
      go_wp2_with fail
      go_ret3
      exact ⟨rfl, HB.out⟩
end Go.Proofs.YtkfjjmmpbfjhaaaGreatDoor.Tells
namespace Go.Proofs.YtkfjjmmpbfjhaaaGreatDoor.Tells
open Go.RowKit Go.Proofs.YtkfjjmmpbfjhaaaGreatDoor.Facts Go.Proofs.YtkfjjmmpbfjhaaaGreatDoor.PScriptActs Go.Proofs.YtkfjjmmpbfjhaaaGreatDoorW.PrintWords Go.Proofs.YtkfjjmmpbfjhaaaGreatDoorW.PrintLast Go.Proofs.YtkfjjmmpbfjhaaaGreatDoorW.PrintMore
attribute [local go_sem] max2_int min2_int max_two min_two max_three min_three max_four min_four
set_option linter.unusedVariables false
set_option linter.unusedSimpArgs false
/-- what Parse answers for an error -/
def ErrIs (er : Value) (l c : Int) (w : World) : Prop := inI l ∧ inI c ∧ ((c = 0 ∧ l = 0 ∧ er = .nilIface) ∨ (c ≠ 0 ∧ ∃ g, er = .iface 55 (.pointer (some ⟨g, 0, none⟩)) ∧ w.heap[g]? = some (.cells #[.int .i64 l, .int .i64 c] 80 (0, 0))))
theorem ErrIs.below {er : Value} {l c : Int} {w w' : World} (h : ErrIs er l c w) (hb : Below w.heap.size w w') : ErrIs er l c w' := by
  obtain ⟨h1, h2, h | ⟨h3, g, h4, h5⟩⟩ := h
  · exact ⟨h1, h2, .inl h⟩
  · exact ⟨h1, h2, .inr ⟨h3, g, h4, (hb.block _ (blk_lt h5)).trans h5⟩⟩
/-- what Parse answers, opened -/
theorem parsed_any {s : ByteArray} {w w' : World} {e : Ending} {p0 p1 l c : Int} {acts : List S31} (h : Parsed s w e w') (hs : s.size ≤ 1073741824) (hp : parseP (bl s) = ((p0, p1, acts), l, c)) :
    ∃ A cp er, e = .returned (.tuple #[.agg #[.int .i64 p0, .int .i64 p1, .slice A acts.length cp], er]) ∧ Below w.heap.size w w' ∧ Kd.C k31 w' A acts.length acts ∧ acts.length ≤ cp ∧ ErrIs er l c w' := by
  obtain ⟨v, er, he, hb, hS, h0, h1⟩ := h
  have hf := (parse_fine (bl s)).2.2.2.2.2
  have hbl := bl_len s
  rw [hp] at he hS h0 h1 hf
  obtain ⟨A, cp, rfl, hc, hC⟩ := Kd.R_reads (Kd.S_R hS)
  refine ⟨A, cp, er, he, hb, hC, hc, ?_⟩
  have hl : inI l ∧ inI c := by
    rcases hf with ⟨k1, k2⟩ | ⟨k1, k2, k3, k4⟩
    · have k1' : l = 0 := k1
      have k2' : c = 0 ∨ c = 240 := k2
      subst k1'
      rcases k2' with rfl | rfl <;> exact ⟨⟨by decide, by decide⟩, ⟨by decide, by decide⟩⟩
    · have k1' : 1 ≤ l := k1
      have k2' : l ≤ ((bl s).length : Int) + 1 := k2
      have k3' : 240 ≤ c := k3
      have k4' : c ≤ 246 := k4
      unfold inI
      omega
  refine ⟨hl.1, hl.2, ?_⟩
  by_cases hc0 : c = 0
  · refine .inl ⟨hc0, ?_, h0 hc0⟩
    rcases hf with ⟨k1, k2⟩ | ⟨k1, k2, k3, k4⟩
    · exact k1
    · have k3' : 240 ≤ c := k3
      omega
  · obtain ⟨g, e1, e2, _⟩ := h1 hc0
    exact .inr ⟨hc0, g, e1, e2⟩
theorem said_any (er : Value) (l c : Int) (w : World) (T : Pow w) (E : Errs w) (h : ErrIs er l c w) : Calls Tryz.prog 21 #[er] w fun e w' => e = .returned (.tuple #[.int .i64 l, .int .i64 c, .bool true]) ∧ Below w.heap.size w w' := by
  obtain ⟨h1, h2, ⟨rfl, rfl, rfl⟩ | ⟨h3, g, rfl, h5⟩⟩ := h
  · refine (said_nil w).mono ?_
    rintro e w' ⟨rfl, rfl⟩
    exact ⟨rfl, Below.refl _ _⟩
  · exact said_calls g l c h1 h2 h3 w T E h5
/-- a block that holds a play -/
structure PlayBlk (W : World) (B : Nat) (p0 p1 : Int) (A : Option Addr) (acts : List S31) (c : Nat) (wr : World) : Prop where
  below : Below W.heap.size W wr
  blk : wr.heap[B]? = some (.cells #[.int .i64 p0, .int .i64 p1, .slice A acts.length c] 24 (0, 0))
  acts : Kd.C k31 wr A acts.length acts
theorem PlayBlk.next {W : World} {B : Nat} {p0 p1 : Int} {A : Option Addr} {acts : List S31} {c : Nat} {wr w2 : World} (h : PlayBlk W B p0 p1 A acts c wr) (hb : Below wr.heap.size wr w2) : PlayBlk W B p0 p1 A acts c w2 :=
  ⟨below_then h.below h.below.size hb, (hb.block _ (blk_lt h.blk)).trans h.blk, Kd.C_below h.acts hb⟩
theorem PlayBlk.mk2 {W : World} {p0 p1 : Int} {A : Option Addr} {acts : List S31} {c : Nat} {w : World} (hb : Below W.heap.size W w) (hC : Kd.C k31 w A acts.length acts) : PlayBlk W w.heap.size p0 p1 A acts c (w.alloc (.cells #[.int .i64 p0, .int .i64 p1, .slice A acts.length c] 24 (0, 0))) :=
  ⟨below_then hb hb.size (below_alloc (Below.refl _ _) _), blk_new w _, Kd.C_below hC (below_alloc (Below.refl _ _) _)⟩
end Go.Proofs.YtkfjjmmpbfjhaaaGreatDoor.Tells
