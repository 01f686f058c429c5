/- kilnref7.s may, walked. Conditions: those that each theorem states. -/
import Derived.Test.YtjibdaigclgmhaaGreatDoorLexHH
import Derived.Test.YtjibdaigclgmhaaGreatDoorLexZ
namespace Go.Proofs.YtjibdaigclgmhaaGreatDoor.LexW
open Go.RowKit Go.Proofs.YtjibdaigclgmhaaGreatDoor.Lex Go.Proofs.YtjibdaigclgmhaaGreatDoor.Facts Go.Proofs.YtjibdaigclgmhaaGreatDoor.PLexPrints Go.Proofs.YtjibdaigclgmhaaGreatDoorW.PrintWords Go.Proofs.YtjibdaigclgmhaaGreatDoorW.PrintLast Go.Proofs.YtjibdaigclgmhaaGreatDoorW.PrintMore
attribute [local go_sem] max2_int min2_int max_two min_two max_three min_three max_four min_four
set_option linter.unusedVariables false
set_option linter.unusedSimpArgs false
theorem all_two {s : ByteArray} {t t2 : TokA} (hq : lex (bl s) = .inl [t, t2]) (hs : s.size ≤ 1099511627776) (w : World) : Calls Tryz.prog 35 #[.string s] w fun e w' => ∃ A c, e = .returned (.tuple #[.slice A 2 c, .agg #[.int .i64 0, .int .i64 0]]) ∧ Kd.C k28 w' A 2 [tokS t, tokS t2] ∧ Below w.heap.size w w' := by
  refine (all_calls s hs w).mono ?_
  rintro e w' h
  rw [hq] at h
  obtain ⟨⟨v, rfl, hR⟩, hb⟩ := h
  obtain ⟨A, c, rfl⟩ := Kd.R_slice hR
  have hC := Kd.R_reads' hR
  exact ⟨A, c, rfl, hC.2.2, hb⟩
theorem all_list {s : ByteArray} {l : List TokA} (hq : lex (bl s) = .inl l) (hs : s.size ≤ 1099511627776) (w : World) : Calls Tryz.prog 35 #[.string s] w fun e w' => ∃ A c, e = .returned (.tuple #[.slice A l.length c, .agg #[.int .i64 0, .int .i64 0]]) ∧ Below w.heap.size w w' := by
  refine (all_calls s hs w).mono ?_
  rintro e w' h
  rw [hq] at h
  obtain ⟨⟨v, rfl, hR⟩, hb⟩ := h
  obtain ⟨A, c, rfl⟩ := Kd.R_slice hR
  rw [List.length_map]
  exact ⟨A, c, rfl, hb⟩
theorem all_fault {s : ByteArray} {a : Nat} (hq : lex (bl s) = .inr a) (hs : s.size ≤ 1099511627776) (w : World) : Calls Tryz.prog 35 #[.string s] w fun e w' => e = .returned (.tuple #[.slice none 0 0, .agg #[.int .i64 70, .int .i64 (a : Int)]]) ∧ Below w.heap.size w w' := by
  refine (all_calls s hs w).mono ?_
  rintro e w' h
  rw [hq] at h
  exact h
set_option maxHeartbeats 4000000 in
set_option maxRecDepth 100000 in
theorem may_calls (x : S28) (w : World) (hs : x.f1.size ≤ 1073741824) (hn0 : -9223372036854775808 ≤ x.f2) (hn : x.f2 ≤ 9223372036854775807) (E : PEnv w) : Calls Tryz.prog 18 #[.agg #[.int .i64 x.f0, .string x.f1, .int .i64 x.f2, .int .i64 x.f3]] w fun e w' => e = .returned (.bool (may (tk x))) ∧ Below w.heap.size w w' := by
  have hb0 : Below w.heap.size w (w.alloc (.cells #[.int .i64 x.f0, .string x.f1, .int .i64 x.f2, .int .i64 x.f3] 28 (0, 0))) := (Below.refl _ _).alloc (Nat.le_refl _) _
  have hsh := shown_calls x (w.alloc (.cells #[.int .i64 x.f0, .string x.f1, .int .i64 x.f2, .int .i64 x.f3] 28 (0, 0))) hs hn0 hn (E.below hb0)
  have HB0 := Aside0.mk hb0
  have HP0 := Aside0.mk (blk_new w (.cells #[.int .i64 x.f0, .string x.f1, .int .i64 x.f2, .int .i64 x.f3] 28 (0, 0)))
  have hsb := spB_len x hn0 hn
  have hsz : (spB x).size ≤ 1099511627776 := by omega
  by_cases hem : spB x = ⟨#[]⟩
  · have hm : may (tk x) = false := by
      unfold may
      rw [← bl_spB, hem, show lex (bl ⟨#[]⟩) = .inl [⟨stopT, 0⟩] by decide +kernel]
    have HM := Aside0.mk hm
    rw [hem] at hsh
    clear hm hem hb0 hsb hsz
    go_enter Tryz.func18, Tryz.ntmps18
    go_wp2_with (go_at_call 19; refine hsh.mono ?_; rintro e w1 ⟨rfl, hb⟩; have HB1 := Aside0.mk (below_then HB0.out HB0.out.size hb); clear hb)
    go_ret
    refine ⟨?_, HB1.out⟩
    rw [HM.out]
    rfl
  · have hne : ((spB x).toList == []) = false := by
      rw [ByteArray.toList_eq, beq_eq_false_iff_ne]
      intro e
      exact hem (by apply ByteArray.ext; apply Array.toList_inj.1; exact e)
    have HS := Aside0.mk hsz
    clear hb0 hsb hem hsz
    go_enter Tryz.func18, Tryz.ntmps18
    go_wp2_with (go_at_call 19; refine hsh.mono ?_; rintro e w1 ⟨rfl, hb⟩; have HB1 := Aside0.mk (below_then HB0.out HB0.out.size hb); have HP1 := Aside0.mk (blk_below HP0.out hb); clear hb)
    have HE1 : Aside0 (True) := ⟨trivial⟩
    cases hl : lex (bl (spB x)) with
    | inr a =>
      have HM : Aside0 (may (tk x) = false) := ⟨by unfold may; rw [← bl_spB, hl]⟩
      refine (all_fault hl HS.out _).mono ?_
      rintro e w2 ⟨rfl, hb2⟩
      have HB2 := Aside0.mk (below_then HB1.out HB1.out.size hb2)
      have HP2 := Aside0.mk (blk_below HP1.out hb2)
      go_wp2_with fail
      obtain ⟨q, hq⟩ : ∃ q, q = w2.heap.size := ⟨_, rfl⟩
      obtain ⟨W3, hW3⟩ : ∃ W3, W3 = w2.alloc (Obj.cells #[Value.int IntKind.i64 70, Value.int IntKind.i64 (a : Int)] 38) := ⟨_, rfl⟩
      have hW23 : Below w2.heap.size w2 W3 := by rw [hW3]; exact (Below.refl _ _).alloc (Nat.le_refl _) _
      have HB3 : Aside0 (Below w.heap.size w W3) := ⟨below_then HB2.out HB2.out.size hW23⟩
      have hqq : W3.heap[q]? = some (.cells #[.int .i64 70, .int .i64 (a : Int)] 38 (0, 0)) := by rw [hW3, hq]; exact blk_new _ _
      have y0 : W3.cell? ⟨q, 0, none⟩ = some (.int .i64 70) := blk_cell hqq 0
      have hpp := blk_below HP2.out hW23
      have p0 : W3.cell? ⟨w.heap.size, 0, none⟩ = some (.int .i64 x.f0) := blk_cell hpp 0
      have p1 : W3.cell? ⟨w.heap.size, 1, none⟩ = some (.string x.f1) := blk_cell hpp 1
      have p2 : W3.cell? ⟨w.heap.size, 2, none⟩ = some (.int .i64 x.f2) := blk_cell hpp 2
      rw [← hq, ← hW3]
      clear hW3 hq hqq hpp hW23 hb2
      refine region_facts (ws := []) (G := fun _ w' => w'.cell? ⟨q, 0, none⟩ = some (.int .i64 70) ∧ Aside0 (Below w.heap.size w w')) (φs := [Fact.eq ?va0, Fact.eq ?va1, Fact.eq ?va2, Fact.eq ?va3, Fact.eq undef, Fact.eq undef, Fact.eq undef, Fact.eq ?va7, Fact.eq ?va8, Fact.eq undef, Fact.eq undef, Fact.eq undef, Fact.eq undef, Fact.eq undef, Fact.eq undef, Fact.eq undef, Fact.eq ?va16, Fact.eq ?va17, Fact.eq undef, Fact.eq undef, Fact.eq undef, Fact.eq undef, Fact.eq undef, Fact.eq undef, Fact.eq undef, Fact.eq ?va25, Fact.eq ?va26, Fact.eq undef, Fact.eq undef, Fact.eq undef, Fact.eq undef, Fact.eq undef, Fact.eq undef, Fact.eq undef, Fact.eq ?va34, Fact.eq ?va35, Fact.eq undef, Fact.eq undef, Fact.eq undef, Fact.eq undef, Fact.eq undef, Fact.eq ?va41, Fact.eq ?va42]) (n := 43) (m := 57) (by kernel_rfl) (by kernel_rfl) rfl rfl (by kernel_rfl) (fun _ _ _ h hb => ⟨pw_cell_below hb h.1, ⟨below_then h.2.out h.2.out.size hb⟩⟩) (⟨y0, ⟨below_drew HB3.out⟩⟩) ⟨?oa0, ?oa1, ?oa2, ?oa3, ?oa4, ?oa5, ?oa6, ?oa7, ?oa8, ?oa9, ?oa10, ?oa11, ?oa12, ?oa13, ?oa14, ?oa15, ?oa16, ?oa17, ?oa18, ?oa19, ?oa20, ?oa21, ?oa22, ?oa23, ?oa24, ?oa25, ?oa26, ?oa27, ?oa28, ?oa29, ?oa30, ?oa31, ?oa32, ?oa33, ?oa34, ?oa35, ?oa36, ?oa37, ?oa38, ?oa39, ?oa40, ?oa41, ?oa42, trivial⟩ ?fina
      case oa0 =>
        refine ask_val [.fix 5 _] rfl 15 rfl (.inl rfl) ⟨⟨by kernel_rfl, by conv => lhs; whnf⟩, trivial⟩ ?_
        dsimp only [Has, Fact.eq]
        intro e ρ w' hc hf hg hG h5
        go_simp
        with_reducible rfl
      case oa1 =>
        refine ask_val [.op 15 0 (Fact.eq _)] rfl 16 rfl (.inl rfl) ⟨⟨by kernel_rfl, rfl⟩, trivial⟩ ?_
        dsimp only [Has, Fact.eq]
        intro e ρ w' hc hf hg hG h15
        obtain ⟨s0, s1⟩ := hG
        go_simp
        with_reducible rfl
      case oa2 =>
        refine ask_val [.op 16 1 (Fact.eq _)] rfl 17 rfl (.inl rfl) ⟨⟨by kernel_rfl, rfl⟩, trivial⟩ ?_
        dsimp only [Has, Fact.eq]
        intro e ρ w' hc hf hg hG h16
        go_simp
        with_reducible rfl
      case oa3 =>
        refine ask_val [.op 17 2 (Fact.eq _)] rfl 18 rfl (.inl rfl) ⟨⟨by kernel_rfl, rfl⟩, trivial⟩ ?_
        dsimp only [Has, Fact.eq]
        intro e ρ w' hc hf hg hG h17
        go_simp
        with_reducible rfl
      case oa4 =>
        exact ask_off rfl ⟨3, false, rfl, by kernel_rfl, rfl⟩
      case oa5 =>
        exact ask_off rfl ⟨3, false, rfl, by kernel_rfl, rfl⟩
      case oa6 =>
        exact ask_off rfl ⟨3, false, rfl, by kernel_rfl, rfl⟩
      case oa7 =>
        refine ask_val [.op 18 3 (Fact.eq _), .op 21 6 (Fact.eq _)] rfl 22 rfl (.inl rfl) ⟨⟨by kernel_rfl, rfl⟩, ⟨by kernel_rfl, rfl⟩, trivial⟩ ?_
        dsimp only [Has, Fact.eq]
        intro e ρ w' hc hf hg hG h18 h21
        go_simp
        with_reducible rfl
      case oa8 =>
        refine ask_val [.op 22 7 (Fact.eq _)] rfl 23 rfl (.inl rfl) ⟨⟨by kernel_rfl, rfl⟩, trivial⟩ ?_
        dsimp only [Has, Fact.eq]
        intro e ρ w' hc hf hg hG h22
        go_simp
        with_reducible rfl
      case oa9 =>
        exact ask_off rfl ⟨8, false, rfl, by kernel_rfl, rfl⟩
      case oa10 =>
        exact ask_off rfl ⟨8, false, rfl, by kernel_rfl, rfl⟩
      case oa11 =>
        exact ask_off rfl ⟨8, false, rfl, by kernel_rfl, rfl⟩
      case oa12 =>
        exact ask_off rfl ⟨8, false, rfl, by kernel_rfl, rfl⟩
      case oa13 =>
        exact ask_off rfl ⟨8, false, rfl, by kernel_rfl, rfl⟩
      case oa14 =>
        exact ask_off rfl ⟨8, false, rfl, by kernel_rfl, rfl⟩
      case oa15 =>
        exact ask_off rfl ⟨8, false, rfl, by kernel_rfl, rfl⟩
      case oa16 =>
        refine ask_val [.op 23 8 (Fact.eq _), .op 30 15 (Fact.eq _)] rfl 31 rfl (.inl rfl) ⟨⟨by kernel_rfl, rfl⟩, ⟨by kernel_rfl, rfl⟩, trivial⟩ ?_
        dsimp only [Has, Fact.eq]
        intro e ρ w' hc hf hg hG h23 h30
        go_simp
        with_reducible rfl
      case oa17 =>
        refine ask_val [.op 31 16 (Fact.eq _)] rfl 32 rfl (.inl rfl) ⟨⟨by kernel_rfl, rfl⟩, trivial⟩ ?_
        dsimp only [Has, Fact.eq]
        intro e ρ w' hc hf hg hG h31
        go_simp
        with_reducible rfl
      case oa18 =>
        exact ask_off rfl ⟨17, false, rfl, by kernel_rfl, rfl⟩
      case oa19 =>
        exact ask_off rfl ⟨17, false, rfl, by kernel_rfl, rfl⟩
      case oa20 =>
        exact ask_off rfl ⟨17, false, rfl, by kernel_rfl, rfl⟩
      case oa21 =>
        exact ask_off rfl ⟨17, false, rfl, by kernel_rfl, rfl⟩
      case oa22 =>
        exact ask_off rfl ⟨17, false, rfl, by kernel_rfl, rfl⟩
      case oa23 =>
        exact ask_off rfl ⟨17, false, rfl, by kernel_rfl, rfl⟩
      case oa24 =>
        exact ask_off rfl ⟨17, false, rfl, by kernel_rfl, rfl⟩
      case oa25 =>
        refine ask_val [.op 32 17 (Fact.eq _), .op 39 24 (Fact.eq _)] rfl 40 rfl (.inl rfl) ⟨⟨by kernel_rfl, rfl⟩, ⟨by kernel_rfl, rfl⟩, trivial⟩ ?_
        dsimp only [Has, Fact.eq]
        intro e ρ w' hc hf hg hG h32 h39
        go_simp
        with_reducible rfl
      case oa26 =>
        refine ask_val [.op 40 25 (Fact.eq _)] rfl 41 rfl (.inl rfl) ⟨⟨by kernel_rfl, rfl⟩, trivial⟩ ?_
        dsimp only [Has, Fact.eq]
        intro e ρ w' hc hf hg hG h40
        go_simp
        with_reducible rfl
      case oa27 =>
        exact ask_off rfl ⟨26, false, rfl, by kernel_rfl, rfl⟩
      case oa28 =>
        exact ask_off rfl ⟨26, false, rfl, by kernel_rfl, rfl⟩
      case oa29 =>
        exact ask_off rfl ⟨26, false, rfl, by kernel_rfl, rfl⟩
      case oa30 =>
        exact ask_off rfl ⟨26, false, rfl, by kernel_rfl, rfl⟩
      case oa31 =>
        exact ask_off rfl ⟨26, false, rfl, by kernel_rfl, rfl⟩
      case oa32 =>
        exact ask_off rfl ⟨26, false, rfl, by kernel_rfl, rfl⟩
      case oa33 =>
        exact ask_off rfl ⟨26, false, rfl, by kernel_rfl, rfl⟩
      case oa34 =>
        refine ask_val [.op 41 26 (Fact.eq _), .op 48 33 (Fact.eq _)] rfl 49 rfl (.inl rfl) ⟨⟨by kernel_rfl, rfl⟩, ⟨by kernel_rfl, rfl⟩, trivial⟩ ?_
        dsimp only [Has, Fact.eq]
        intro e ρ w' hc hf hg hG h41 h48
        go_simp
        with_reducible rfl
      case oa35 =>
        refine ask_val [.op 49 34 (Fact.eq _)] rfl 50 rfl (.inl rfl) ⟨⟨by kernel_rfl, rfl⟩, trivial⟩ ?_
        dsimp only [Has, Fact.eq]
        intro e ρ w' hc hf hg hG h49
        go_simp
        with_reducible rfl
      case oa36 =>
        exact ask_off rfl ⟨35, false, rfl, by kernel_rfl, rfl⟩
      case oa37 =>
        exact ask_off rfl ⟨35, false, rfl, by kernel_rfl, rfl⟩
      case oa38 =>
        exact ask_off rfl ⟨35, false, rfl, by kernel_rfl, rfl⟩
      case oa39 =>
        exact ask_off rfl ⟨35, false, rfl, by kernel_rfl, rfl⟩
      case oa40 =>
        exact ask_off rfl ⟨35, false, rfl, by kernel_rfl, rfl⟩
      case oa41 =>
        refine ask_val [.op 50 35 (Fact.eq _), .op 55 40 (Fact.eq _)] rfl 56 rfl (.inl rfl) ⟨⟨by kernel_rfl, rfl⟩, ⟨by kernel_rfl, rfl⟩, trivial⟩ ?_
        dsimp only [Has, Fact.eq]
        intro e ρ w' hc hf hg hG h50 h55
        go_simp
        with_reducible rfl
      case oa42 =>
        refine ask_val [.op 56 41 (Fact.eq _)] rfl 2 rfl (.inl rfl) ⟨⟨by kernel_rfl, rfl⟩, trivial⟩ ?_
        dsimp only [Has, Fact.eq]
        intro e ρ w' hc hf hg hG h56
        go_simp
        with_reducible rfl
      case fina =>
        intro w' hG
        refine fin_eq (fin_eq (fin_eq (fin_eq (fin_eq (fin_eq (fin_eq (fin_eq (fin_eq (fin_eq (fin_eq (fin_eq (fin_eq (fin_eq (fin_eq (fin_eq (fin_eq (fin_eq (fin_eq (fin_eq (fin_eq (fin_eq (fin_eq (fin_eq (fin_eq (fin_eq (fin_eq (fin_eq (fin_eq (fin_eq (fin_eq (fin_eq (fin_eq (fin_eq (fin_eq (fin_eq (fin_eq (fin_eq (fin_eq (fin_eq (fin_eq (fin_eq (fin_eq (fin_nil (a' := ?_) ?_ ?_)))))))))))))))))))))))))))))))))))))))))))
        rotate_left
        · simp only [Act.put, List.setIfInBounds_toArray, List.set_cons_zero, List.set_cons_succ]
          rfl
        go_wp2_with fail
        go_ret
        refine ⟨?_, hG.2.out⟩
        rw [HM.out]
        rfl
    | inl l =>
      by_cases hl2 : l.length = 2
      · obtain ⟨t, t2, rfl⟩ : ∃ t t2, l = [t, t2] := by
          match l, hl2 with
          | [t, t2], _ => exact ⟨t, t2, rfl⟩
        have hmay : may (tk x) = decide (t = ⟨tk x, 0⟩) := by unfold may; rw [← bl_spB, hl]
        refine (all_two hl HS.out _).mono ?_
        rintro e w2 ⟨A2, c2, rfl, hC2, hb2⟩
        obtain ⟨aq, rfl, a0, a1, a2, a3⟩ := two_at hC2
        have HB2 := Aside0.mk (below_then HB1.out HB1.out.size hb2)
        have HP2 := Aside0.mk (blk_below HP1.out hb2)
        go_wp2_with fail
        obtain ⟨q, hq⟩ : ∃ q, q = w2.heap.size := ⟨_, rfl⟩
        obtain ⟨W3, hW3⟩ : ∃ W3, W3 = w2.alloc (Obj.cells #[Value.int IntKind.i64 0, Value.int IntKind.i64 0] 38) := ⟨_, rfl⟩
        have hW23 : Below w2.heap.size w2 W3 := by rw [hW3]; exact (Below.refl _ _).alloc (Nat.le_refl _) _
        have HB3 : Aside0 (Below w.heap.size w W3) := ⟨below_then HB2.out HB2.out.size hW23⟩
        have hqq : W3.heap[q]? = some (.cells #[.int .i64 0, .int .i64 0] 38 (0, 0)) := by rw [hW3, hq]; exact blk_new _ _
        have y0 : W3.cell? ⟨q, 0, none⟩ = some (.int .i64 0) := blk_cell hqq 0
        have hpp := blk_below HP2.out hW23
        have p0 : W3.cell? ⟨w.heap.size, 0, none⟩ = some (.int .i64 x.f0) := blk_cell hpp 0
        have p1 : W3.cell? ⟨w.heap.size, 1, none⟩ = some (.string x.f1) := blk_cell hpp 1
        have p2 : W3.cell? ⟨w.heap.size, 2, none⟩ = some (.int .i64 x.f2) := blk_cell hpp 2
        replace a0 := pw_cell_below hW23 a0
        replace a1 := pw_cell_below hW23 a1
        replace a2 := pw_cell_below hW23 a2
        replace a3 := pw_cell_below hW23 a3
        rw [← hq, ← hW3]
        clear hW3 hq hqq hpp hW23 hb2 hC2
        by_cases c0 : t.tok.kind = x.f0
        rotate_left
        · have HM : Aside0 (may (tk x) = false) := ⟨by rw [hmay]; exact decide_eq_false (fun e => c0 (by rw [e] <;> rfl))⟩
          have q0 : (t.tok.kind == x.f0) = false := by simpa using c0
          refine region_facts (ws := []) (G := fun _ w' => w'.cell? ⟨q, 0, none⟩ = some (.int .i64 0) ∧ w'.cell? ⟨w.heap.size, 0, none⟩ = some (.int .i64 x.f0) ∧ w'.cell? ⟨w.heap.size, 1, none⟩ = some (.string x.f1) ∧ w'.cell? ⟨w.heap.size, 2, none⟩ = some (.int .i64 x.f2) ∧ w'.cell? aq = some (.int .i64 t.tok.kind) ∧ w'.cell? ⟨aq.block, aq.off + 1, none⟩ = some (.string ⟨t.tok.text.toArray⟩) ∧ w'.cell? ⟨aq.block, aq.off + 2, none⟩ = some (.int .i64 t.tok.num) ∧ w'.cell? ⟨aq.block, aq.off + 3, none⟩ = some (.int .i64 (t.place : Int)) ∧ Aside0 (Below w.heap.size w w')) (φs := [Fact.eq ?ve0, Fact.eq ?ve1, Fact.eq ?ve2, Fact.eq ?ve3, Fact.eq ?ve4, Fact.eq ?ve5, Fact.eq ?ve6, Fact.eq ?ve7, Fact.eq ?ve8, Fact.eq ?ve9, Fact.eq ?ve10, Fact.eq ?ve11, Fact.eq ?ve12, Fact.eq ?ve13, Fact.eq ?ve14, Fact.eq ?ve15, Fact.eq ?ve16, Fact.eq ?ve17, Fact.eq undef, Fact.eq undef, Fact.eq undef, Fact.eq undef, Fact.eq undef, Fact.eq undef, Fact.eq undef, Fact.eq ?ve25, Fact.eq ?ve26, Fact.eq undef, Fact.eq undef, Fact.eq undef, Fact.eq undef, Fact.eq undef, Fact.eq undef, Fact.eq undef, Fact.eq ?ve34, Fact.eq ?ve35, Fact.eq undef, Fact.eq undef, Fact.eq undef, Fact.eq undef, Fact.eq undef, Fact.eq ?ve41, Fact.eq ?ve42]) (n := 43) (m := 57) (by kernel_rfl) (by kernel_rfl) rfl rfl (by kernel_rfl) (fun _ _ _ h hb => ⟨pw_cell_below hb h.1, pw_cell_below hb h.2.1, pw_cell_below hb h.2.2.1, pw_cell_below hb h.2.2.2.1, pw_cell_below hb h.2.2.2.2.1, pw_cell_below hb h.2.2.2.2.2.1, pw_cell_below hb h.2.2.2.2.2.2.1, pw_cell_below hb h.2.2.2.2.2.2.2.1, ⟨below_then h.2.2.2.2.2.2.2.2.out h.2.2.2.2.2.2.2.2.out.size hb⟩⟩) (⟨y0, p0, p1, p2, a0, a1, a2, a3, ⟨below_drew HB3.out⟩⟩) ⟨?oe0, ?oe1, ?oe2, ?oe3, ?oe4, ?oe5, ?oe6, ?oe7, ?oe8, ?oe9, ?oe10, ?oe11, ?oe12, ?oe13, ?oe14, ?oe15, ?oe16, ?oe17, ?oe18, ?oe19, ?oe20, ?oe21, ?oe22, ?oe23, ?oe24, ?oe25, ?oe26, ?oe27, ?oe28, ?oe29, ?oe30, ?oe31, ?oe32, ?oe33, ?oe34, ?oe35, ?oe36, ?oe37, ?oe38, ?oe39, ?oe40, ?oe41, ?oe42, trivial⟩ ?fine
          case oe0 =>
            refine ask_val [.fix 5 _] rfl 15 rfl (.inl rfl) ⟨⟨by kernel_rfl, by conv => lhs; whnf⟩, trivial⟩ ?_
            dsimp only [Has, Fact.eq]
            intro e ρ w' hc hf hg hG h5
            go_simp
            with_reducible rfl
          case oe1 =>
            refine ask_val [.op 15 0 (Fact.eq _)] rfl 16 rfl (.inl rfl) ⟨⟨by kernel_rfl, rfl⟩, trivial⟩ ?_
            dsimp only [Has, Fact.eq]
            intro e ρ w' hc hf hg hG h15
            obtain ⟨s0, s1, s2, s3, s4, s5, s6, s7, s8⟩ := hG
            go_simp
            with_reducible rfl
          case oe2 =>
            refine ask_val [.op 16 1 (Fact.eq _)] rfl 17 rfl (.inl rfl) ⟨⟨by kernel_rfl, rfl⟩, trivial⟩ ?_
            dsimp only [Has, Fact.eq]
            intro e ρ w' hc hf hg hG h16
            go_simp
            with_reducible rfl
          case oe3 =>
            refine ask_val [.op 17 2 (Fact.eq _)] rfl 18 rfl (.inl rfl) ⟨⟨by kernel_rfl, rfl⟩, trivial⟩ ?_
            dsimp only [Has, Fact.eq]
            intro e ρ w' hc hf hg hG h17
            go_simp
            with_reducible rfl
          case oe4 =>
            refine ask_val [.fix 4 _] rfl 19 rfl (.inr ⟨3, true, rfl, by kernel_rfl, rfl⟩) ⟨⟨by kernel_rfl, by conv => lhs; whnf⟩, trivial⟩ ?_
            dsimp only [Has, Fact.eq]
            intro e ρ w' hc hf hg hG h4
            go_simp
            with_reducible rfl
          case oe5 =>
            refine ask_val [.op 19 4 (Fact.eq _)] rfl 20 rfl (.inr ⟨3, true, rfl, by kernel_rfl, rfl⟩) ⟨⟨by kernel_rfl, rfl⟩, trivial⟩ ?_
            dsimp only [Has, Fact.eq]
            intro e ρ w' hc hf hg hG h19
            go_simp
            with_reducible rfl
          case oe6 =>
            refine ask_val [.op 20 5 (Fact.eq _)] rfl 21 rfl (.inr ⟨3, true, rfl, by kernel_rfl, rfl⟩) ⟨⟨by kernel_rfl, rfl⟩, trivial⟩ ?_
            dsimp only [Has, Fact.eq]
            intro e ρ w' hc hf hg hG h20
            go_simp
            with_reducible rfl
          case oe7 =>
            refine ask_val [.op 18 3 (Fact.eq _), .op 21 6 (Fact.eq _)] rfl 22 rfl (.inl rfl) ⟨⟨by kernel_rfl, rfl⟩, ⟨by kernel_rfl, rfl⟩, trivial⟩ ?_
            dsimp only [Has, Fact.eq]
            intro e ρ w' hc hf hg hG h18 h21
            go_simp
            with_reducible rfl
          case oe8 =>
            refine ask_val [.op 22 7 (Fact.eq _)] rfl 23 rfl (.inl rfl) ⟨⟨by kernel_rfl, rfl⟩, trivial⟩ ?_
            dsimp only [Has, Fact.eq]
            intro e ρ w' hc hf hg hG h22
            go_simp
            with_reducible rfl
          case oe9 =>
            refine ask_val [.fix 4 _] rfl 24 rfl (.inr ⟨8, true, rfl, by kernel_rfl, rfl⟩) ⟨⟨by kernel_rfl, by conv => lhs; whnf⟩, trivial⟩ ?_
            dsimp only [Has, Fact.eq]
            intro e ρ w' hc hf hg hG h4
            go_simp
            with_reducible rfl
          case oe10 =>
            refine ask_val [.op 24 9 (Fact.eq _)] rfl 25 rfl (.inr ⟨8, true, rfl, by kernel_rfl, rfl⟩) ⟨⟨by kernel_rfl, rfl⟩, trivial⟩ ?_
            dsimp only [Has, Fact.eq]
            intro e ρ w' hc hf hg hG h24
            go_simp
            with_reducible rfl
          case oe11 =>
            refine ask_val [.op 25 10 (Fact.eq _)] rfl 26 rfl (.inr ⟨8, true, rfl, by kernel_rfl, rfl⟩) ⟨⟨by kernel_rfl, rfl⟩, trivial⟩ ?_
            dsimp only [Has, Fact.eq]
            intro e ρ w' hc hf hg hG h25
            go_simp
            with_reducible rfl
          case oe12 =>
            refine ask_val [.op 26 11 (Fact.eq _)] rfl 27 rfl (.inr ⟨8, true, rfl, by kernel_rfl, rfl⟩) ⟨⟨by kernel_rfl, rfl⟩, trivial⟩ ?_
            dsimp only [Has, Fact.eq]
            intro e ρ w' hc hf hg hG h26
            obtain ⟨s0, s1, s2, s3, s4, s5, s6, s7, s8⟩ := hG
            go_simp
            with_reducible rfl
          case oe13 =>
            refine ask_val [.fix 1 _] rfl 28 rfl (.inr ⟨8, true, rfl, by kernel_rfl, rfl⟩) ⟨⟨by kernel_rfl, by conv => lhs; whnf⟩, trivial⟩ ?_
            dsimp only [Has, Fact.eq]
            intro e ρ w' hc hf hg hG h1
            go_simp
            with_reducible rfl
          case oe14 =>
            refine ask_val [.op 28 13 (Fact.eq _)] rfl 29 rfl (.inr ⟨8, true, rfl, by kernel_rfl, rfl⟩) ⟨⟨by kernel_rfl, rfl⟩, trivial⟩ ?_
            dsimp only [Has, Fact.eq]
            intro e ρ w' hc hf hg hG h28
            obtain ⟨s0, s1, s2, s3, s4, s5, s6, s7, s8⟩ := hG
            go_simp
            with_reducible rfl
          case oe15 =>
            refine ask_val [.op 27 12 (Fact.eq _), .op 29 14 (Fact.eq _)] rfl 30 rfl (.inr ⟨8, true, rfl, by kernel_rfl, rfl⟩) ⟨⟨by kernel_rfl, rfl⟩, ⟨by kernel_rfl, rfl⟩, trivial⟩ ?_
            dsimp only [Has, Fact.eq]
            intro e ρ w' hc hf hg hG h27 h29
            go_simp
            with_reducible rfl
          case oe16 =>
            refine ask_val [.op 23 8 (Fact.eq _), .op 30 15 (Fact.eq _)] rfl 31 rfl (.inl rfl) ⟨⟨by kernel_rfl, rfl⟩, ⟨by kernel_rfl, rfl⟩, trivial⟩ ?_
            dsimp only [Has, Fact.eq]
            intro e ρ w' hc hf hg hG h23 h30
            go_simp
            with_reducible rfl
          case oe17 =>
            refine ask_val [.op 31 16 (Fact.eq _)] rfl 32 rfl (.inl rfl) ⟨⟨by kernel_rfl, rfl⟩, trivial⟩ ?_
            dsimp only [Has, Fact.eq]
            intro e ρ w' hc hf hg hG h31
            go_simp
            with_reducible rfl
          case oe18 =>
            exact ask_off rfl ⟨17, false, rfl, by kernel_rfl, rfl⟩
          case oe19 =>
            exact ask_off rfl ⟨17, false, rfl, by kernel_rfl, rfl⟩
          case oe20 =>
            exact ask_off rfl ⟨17, false, rfl, by kernel_rfl, rfl⟩
          case oe21 =>
            exact ask_off rfl ⟨17, false, rfl, by kernel_rfl, rfl⟩
          case oe22 =>
            exact ask_off rfl ⟨17, false, rfl, by kernel_rfl, rfl⟩
          case oe23 =>
            exact ask_off rfl ⟨17, false, rfl, by kernel_rfl, rfl⟩
          case oe24 =>
            exact ask_off rfl ⟨17, false, rfl, by kernel_rfl, rfl⟩
          case oe25 =>
            refine ask_val [.op 32 17 (Fact.eq _), .op 39 24 (Fact.eq _)] rfl 40 rfl (.inl rfl) ⟨⟨by kernel_rfl, rfl⟩, ⟨by kernel_rfl, rfl⟩, trivial⟩ ?_
            dsimp only [Has, Fact.eq]
            intro e ρ w' hc hf hg hG h32 h39
            go_simp
            with_reducible rfl
          case oe26 =>
            refine ask_val [.op 40 25 (Fact.eq _)] rfl 41 rfl (.inl rfl) ⟨⟨by kernel_rfl, rfl⟩, trivial⟩ ?_
            dsimp only [Has, Fact.eq]
            intro e ρ w' hc hf hg hG h40
            go_simp
            with_reducible rfl
          case oe27 =>
            exact ask_off rfl ⟨26, false, rfl, by kernel_rfl, rfl⟩
          case oe28 =>
            exact ask_off rfl ⟨26, false, rfl, by kernel_rfl, rfl⟩
          case oe29 =>
            exact ask_off rfl ⟨26, false, rfl, by kernel_rfl, rfl⟩
          case oe30 =>
            exact ask_off rfl ⟨26, false, rfl, by kernel_rfl, rfl⟩
          case oe31 =>
            exact ask_off rfl ⟨26, false, rfl, by kernel_rfl, rfl⟩
          case oe32 =>
            exact ask_off rfl ⟨26, false, rfl, by kernel_rfl, rfl⟩
          case oe33 =>
            exact ask_off rfl ⟨26, false, rfl, by kernel_rfl, rfl⟩
          case oe34 =>
            refine ask_val [.op 41 26 (Fact.eq _), .op 48 33 (Fact.eq _)] rfl 49 rfl (.inl rfl) ⟨⟨by kernel_rfl, rfl⟩, ⟨by kernel_rfl, rfl⟩, trivial⟩ ?_
            dsimp only [Has, Fact.eq]
            intro e ρ w' hc hf hg hG h41 h48
            go_simp
            with_reducible rfl
          case oe35 =>
            refine ask_val [.op 49 34 (Fact.eq _)] rfl 50 rfl (.inl rfl) ⟨⟨by kernel_rfl, rfl⟩, trivial⟩ ?_
            dsimp only [Has, Fact.eq]
            intro e ρ w' hc hf hg hG h49
            go_simp
            with_reducible rfl
          case oe36 =>
            exact ask_off rfl ⟨35, false, rfl, by kernel_rfl, rfl⟩
          case oe37 =>
            exact ask_off rfl ⟨35, false, rfl, by kernel_rfl, rfl⟩
          case oe38 =>
            exact ask_off rfl ⟨35, false, rfl, by kernel_rfl, rfl⟩
          case oe39 =>
            exact ask_off rfl ⟨35, false, rfl, by kernel_rfl, rfl⟩
          case oe40 =>
            exact ask_off rfl ⟨35, false, rfl, by kernel_rfl, rfl⟩
          case oe41 =>
            refine ask_val [.op 50 35 (Fact.eq _), .op 55 40 (Fact.eq _)] rfl 56 rfl (.inl rfl) ⟨⟨by kernel_rfl, rfl⟩, ⟨by kernel_rfl, rfl⟩, trivial⟩ ?_
            dsimp only [Has, Fact.eq]
            intro e ρ w' hc hf hg hG h50 h55
            go_simp
            with_reducible rfl
          case oe42 =>
            refine ask_val [.op 56 41 (Fact.eq _)] rfl 2 rfl (.inl rfl) ⟨⟨by kernel_rfl, rfl⟩, trivial⟩ ?_
            dsimp only [Has, Fact.eq]
            intro e ρ w' hc hf hg hG h56
            go_simp
            with_reducible rfl
          case fine =>
            intro w' hG
            refine fin_eq (fin_eq (fin_eq (fin_eq (fin_eq (fin_eq (fin_eq (fin_eq (fin_eq (fin_eq (fin_eq (fin_eq (fin_eq (fin_eq (fin_eq (fin_eq (fin_eq (fin_eq (fin_eq (fin_eq (fin_eq (fin_eq (fin_eq (fin_eq (fin_eq (fin_eq (fin_eq (fin_eq (fin_eq (fin_eq (fin_eq (fin_eq (fin_eq (fin_eq (fin_eq (fin_eq (fin_eq (fin_eq (fin_eq (fin_eq (fin_eq (fin_eq (fin_eq (fin_nil (a' := ?_) ?_ ?_)))))))))))))))))))))))))))))))))))))))))))
            rotate_left
            · simp only [Act.put, List.setIfInBounds_toArray, List.set_cons_zero, List.set_cons_succ]
              rfl
            go_wp2_with fail
            go_ret
            refine ⟨?_, hG.2.2.2.2.2.2.2.2.out⟩
            rw [HM.out]
            rfl
        have q0 : (t.tok.kind == x.f0) = true := by simpa using c0
        by_cases c1 : t.tok.text = bl x.f1
        rotate_left
        · have HM : Aside0 (may (tk x) = false) := ⟨by rw [hmay]; exact decide_eq_false (fun e => c1 (by rw [e] <;> rfl))⟩
          have q1 : (t.tok.text == x.f1.toList) = false := by rw [ByteArray.toList_eq]; simpa using c1
          refine region_facts (ws := []) (G := fun _ w' => w'.cell? ⟨q, 0, none⟩ = some (.int .i64 0) ∧ w'.cell? ⟨w.heap.size, 0, none⟩ = some (.int .i64 x.f0) ∧ w'.cell? ⟨w.heap.size, 1, none⟩ = some (.string x.f1) ∧ w'.cell? ⟨w.heap.size, 2, none⟩ = some (.int .i64 x.f2) ∧ w'.cell? aq = some (.int .i64 t.tok.kind) ∧ w'.cell? ⟨aq.block, aq.off + 1, none⟩ = some (.string ⟨t.tok.text.toArray⟩) ∧ w'.cell? ⟨aq.block, aq.off + 2, none⟩ = some (.int .i64 t.tok.num) ∧ w'.cell? ⟨aq.block, aq.off + 3, none⟩ = some (.int .i64 (t.place : Int)) ∧ Aside0 (Below w.heap.size w w')) (φs := [Fact.eq ?vf0, Fact.eq ?vf1, Fact.eq ?vf2, Fact.eq ?vf3, Fact.eq ?vf4, Fact.eq ?vf5, Fact.eq ?vf6, Fact.eq ?vf7, Fact.eq ?vf8, Fact.eq ?vf9, Fact.eq ?vf10, Fact.eq ?vf11, Fact.eq ?vf12, Fact.eq ?vf13, Fact.eq ?vf14, Fact.eq ?vf15, Fact.eq ?vf16, Fact.eq ?vf17, Fact.eq ?vf18, Fact.eq ?vf19, Fact.eq ?vf20, Fact.eq ?vf21, Fact.eq ?vf22, Fact.eq ?vf23, Fact.eq ?vf24, Fact.eq ?vf25, Fact.eq ?vf26, Fact.eq undef, Fact.eq undef, Fact.eq undef, Fact.eq undef, Fact.eq undef, Fact.eq undef, Fact.eq undef, Fact.eq ?vf34, Fact.eq ?vf35, Fact.eq undef, Fact.eq undef, Fact.eq undef, Fact.eq undef, Fact.eq undef, Fact.eq ?vf41, Fact.eq ?vf42]) (n := 43) (m := 57) (by kernel_rfl) (by kernel_rfl) rfl rfl (by kernel_rfl) (fun _ _ _ h hb => ⟨pw_cell_below hb h.1, pw_cell_below hb h.2.1, pw_cell_below hb h.2.2.1, pw_cell_below hb h.2.2.2.1, pw_cell_below hb h.2.2.2.2.1, pw_cell_below hb h.2.2.2.2.2.1, pw_cell_below hb h.2.2.2.2.2.2.1, pw_cell_below hb h.2.2.2.2.2.2.2.1, ⟨below_then h.2.2.2.2.2.2.2.2.out h.2.2.2.2.2.2.2.2.out.size hb⟩⟩) (⟨y0, p0, p1, p2, a0, a1, a2, a3, ⟨below_drew HB3.out⟩⟩) ⟨?of0, ?of1, ?of2, ?of3, ?of4, ?of5, ?of6, ?of7, ?of8, ?of9, ?of10, ?of11, ?of12, ?of13, ?of14, ?of15, ?of16, ?of17, ?of18, ?of19, ?of20, ?of21, ?of22, ?of23, ?of24, ?of25, ?of26, ?of27, ?of28, ?of29, ?of30, ?of31, ?of32, ?of33, ?of34, ?of35, ?of36, ?of37, ?of38, ?of39, ?of40, ?of41, ?of42, trivial⟩ ?finf
          case of0 =>
            refine ask_val [.fix 5 _] rfl 15 rfl (.inl rfl) ⟨⟨by kernel_rfl, by conv => lhs; whnf⟩, trivial⟩ ?_
            dsimp only [Has, Fact.eq]
            intro e ρ w' hc hf hg hG h5
            go_simp
            with_reducible rfl
          case of1 =>
            refine ask_val [.op 15 0 (Fact.eq _)] rfl 16 rfl (.inl rfl) ⟨⟨by kernel_rfl, rfl⟩, trivial⟩ ?_
            dsimp only [Has, Fact.eq]
            intro e ρ w' hc hf hg hG h15
            obtain ⟨s0, s1, s2, s3, s4, s5, s6, s7, s8⟩ := hG
            go_simp
            with_reducible rfl
          case of2 =>
            refine ask_val [.op 16 1 (Fact.eq _)] rfl 17 rfl (.inl rfl) ⟨⟨by kernel_rfl, rfl⟩, trivial⟩ ?_
            dsimp only [Has, Fact.eq]
            intro e ρ w' hc hf hg hG h16
            go_simp
            with_reducible rfl
          case of3 =>
            refine ask_val [.op 17 2 (Fact.eq _)] rfl 18 rfl (.inl rfl) ⟨⟨by kernel_rfl, rfl⟩, trivial⟩ ?_
            dsimp only [Has, Fact.eq]
            intro e ρ w' hc hf hg hG h17
            go_simp
            with_reducible rfl
          case of4 =>
            refine ask_val [.fix 4 _] rfl 19 rfl (.inr ⟨3, true, rfl, by kernel_rfl, rfl⟩) ⟨⟨by kernel_rfl, by conv => lhs; whnf⟩, trivial⟩ ?_
            dsimp only [Has, Fact.eq]
            intro e ρ w' hc hf hg hG h4
            go_simp
            with_reducible rfl
          case of5 =>
            refine ask_val [.op 19 4 (Fact.eq _)] rfl 20 rfl (.inr ⟨3, true, rfl, by kernel_rfl, rfl⟩) ⟨⟨by kernel_rfl, rfl⟩, trivial⟩ ?_
            dsimp only [Has, Fact.eq]
            intro e ρ w' hc hf hg hG h19
            go_simp
            with_reducible rfl
          case of6 =>
            refine ask_val [.op 20 5 (Fact.eq _)] rfl 21 rfl (.inr ⟨3, true, rfl, by kernel_rfl, rfl⟩) ⟨⟨by kernel_rfl, rfl⟩, trivial⟩ ?_
            dsimp only [Has, Fact.eq]
            intro e ρ w' hc hf hg hG h20
            go_simp
            with_reducible rfl
          case of7 =>
            refine ask_val [.op 18 3 (Fact.eq _), .op 21 6 (Fact.eq _)] rfl 22 rfl (.inl rfl) ⟨⟨by kernel_rfl, rfl⟩, ⟨by kernel_rfl, rfl⟩, trivial⟩ ?_
            dsimp only [Has, Fact.eq]
            intro e ρ w' hc hf hg hG h18 h21
            go_simp
            with_reducible rfl
          case of8 =>
            refine ask_val [.op 22 7 (Fact.eq _)] rfl 23 rfl (.inl rfl) ⟨⟨by kernel_rfl, rfl⟩, trivial⟩ ?_
            dsimp only [Has, Fact.eq]
            intro e ρ w' hc hf hg hG h22
            go_simp
            with_reducible rfl
          case of9 =>
            refine ask_val [.fix 4 _] rfl 24 rfl (.inr ⟨8, true, rfl, by kernel_rfl, rfl⟩) ⟨⟨by kernel_rfl, by conv => lhs; whnf⟩, trivial⟩ ?_
            dsimp only [Has, Fact.eq]
            intro e ρ w' hc hf hg hG h4
            go_simp
            with_reducible rfl
          case of10 =>
            refine ask_val [.op 24 9 (Fact.eq _)] rfl 25 rfl (.inr ⟨8, true, rfl, by kernel_rfl, rfl⟩) ⟨⟨by kernel_rfl, rfl⟩, trivial⟩ ?_
            dsimp only [Has, Fact.eq]
            intro e ρ w' hc hf hg hG h24
            go_simp
            with_reducible rfl
          case of11 =>
            refine ask_val [.op 25 10 (Fact.eq _)] rfl 26 rfl (.inr ⟨8, true, rfl, by kernel_rfl, rfl⟩) ⟨⟨by kernel_rfl, rfl⟩, trivial⟩ ?_
            dsimp only [Has, Fact.eq]
            intro e ρ w' hc hf hg hG h25
            go_simp
            with_reducible rfl
          case of12 =>
            refine ask_val [.op 26 11 (Fact.eq _)] rfl 27 rfl (.inr ⟨8, true, rfl, by kernel_rfl, rfl⟩) ⟨⟨by kernel_rfl, rfl⟩, trivial⟩ ?_
            dsimp only [Has, Fact.eq]
            intro e ρ w' hc hf hg hG h26
            obtain ⟨s0, s1, s2, s3, s4, s5, s6, s7, s8⟩ := hG
            go_simp
            with_reducible rfl
          case of13 =>
            refine ask_val [.fix 1 _] rfl 28 rfl (.inr ⟨8, true, rfl, by kernel_rfl, rfl⟩) ⟨⟨by kernel_rfl, by conv => lhs; whnf⟩, trivial⟩ ?_
            dsimp only [Has, Fact.eq]
            intro e ρ w' hc hf hg hG h1
            go_simp
            with_reducible rfl
          case of14 =>
            refine ask_val [.op 28 13 (Fact.eq _)] rfl 29 rfl (.inr ⟨8, true, rfl, by kernel_rfl, rfl⟩) ⟨⟨by kernel_rfl, rfl⟩, trivial⟩ ?_
            dsimp only [Has, Fact.eq]
            intro e ρ w' hc hf hg hG h28
            obtain ⟨s0, s1, s2, s3, s4, s5, s6, s7, s8⟩ := hG
            go_simp
            with_reducible rfl
          case of15 =>
            refine ask_val [.op 27 12 (Fact.eq _), .op 29 14 (Fact.eq _)] rfl 30 rfl (.inr ⟨8, true, rfl, by kernel_rfl, rfl⟩) ⟨⟨by kernel_rfl, rfl⟩, ⟨by kernel_rfl, rfl⟩, trivial⟩ ?_
            dsimp only [Has, Fact.eq]
            intro e ρ w' hc hf hg hG h27 h29
            go_simp
            with_reducible rfl
          case of16 =>
            refine ask_val [.op 23 8 (Fact.eq _), .op 30 15 (Fact.eq _)] rfl 31 rfl (.inl rfl) ⟨⟨by kernel_rfl, rfl⟩, ⟨by kernel_rfl, rfl⟩, trivial⟩ ?_
            dsimp only [Has, Fact.eq]
            intro e ρ w' hc hf hg hG h23 h30
            go_simp
            with_reducible rfl
          case of17 =>
            refine ask_val [.op 31 16 (Fact.eq _)] rfl 32 rfl (.inl rfl) ⟨⟨by kernel_rfl, rfl⟩, trivial⟩ ?_
            dsimp only [Has, Fact.eq]
            intro e ρ w' hc hf hg hG h31
            go_simp
            with_reducible rfl
          case of18 =>
            refine ask_val [.fix 4 _] rfl 33 rfl (.inr ⟨17, true, rfl, by kernel_rfl, rfl⟩) ⟨⟨by kernel_rfl, by conv => lhs; whnf⟩, trivial⟩ ?_
            dsimp only [Has, Fact.eq]
            intro e ρ w' hc hf hg hG h4
            go_simp
            with_reducible rfl
          case of19 =>
            refine ask_val [.op 33 18 (Fact.eq _)] rfl 34 rfl (.inr ⟨17, true, rfl, by kernel_rfl, rfl⟩) ⟨⟨by kernel_rfl, rfl⟩, trivial⟩ ?_
            dsimp only [Has, Fact.eq]
            intro e ρ w' hc hf hg hG h33
            go_simp
            with_reducible rfl
          case of20 =>
            refine ask_val [.op 34 19 (Fact.eq _)] rfl 35 rfl (.inr ⟨17, true, rfl, by kernel_rfl, rfl⟩) ⟨⟨by kernel_rfl, rfl⟩, trivial⟩ ?_
            dsimp only [Has, Fact.eq]
            intro e ρ w' hc hf hg hG h34
            go_simp
            with_reducible rfl
          case of21 =>
            refine ask_val [.op 35 20 (Fact.eq _)] rfl 36 rfl (.inr ⟨17, true, rfl, by kernel_rfl, rfl⟩) ⟨⟨by kernel_rfl, rfl⟩, trivial⟩ ?_
            dsimp only [Has, Fact.eq]
            intro e ρ w' hc hf hg hG h35
            obtain ⟨s0, s1, s2, s3, s4, s5, s6, s7, s8⟩ := hG
            go_simp
            with_reducible rfl
          case of22 =>
            refine ask_val [.fix 1 _] rfl 37 rfl (.inr ⟨17, true, rfl, by kernel_rfl, rfl⟩) ⟨⟨by kernel_rfl, by conv => lhs; whnf⟩, trivial⟩ ?_
            dsimp only [Has, Fact.eq]
            intro e ρ w' hc hf hg hG h1
            go_simp
            with_reducible rfl
          case of23 =>
            refine ask_val [.op 37 22 (Fact.eq _)] rfl 38 rfl (.inr ⟨17, true, rfl, by kernel_rfl, rfl⟩) ⟨⟨by kernel_rfl, rfl⟩, trivial⟩ ?_
            dsimp only [Has, Fact.eq]
            intro e ρ w' hc hf hg hG h37
            obtain ⟨s0, s1, s2, s3, s4, s5, s6, s7, s8⟩ := hG
            go_simp
            with_reducible rfl
          case of24 =>
            refine ask_val [.op 36 21 (Fact.eq _), .op 38 23 (Fact.eq _)] rfl 39 rfl (.inr ⟨17, true, rfl, by kernel_rfl, rfl⟩) ⟨⟨by kernel_rfl, rfl⟩, ⟨by kernel_rfl, rfl⟩, trivial⟩ ?_
            dsimp only [Has, Fact.eq]
            intro e ρ w' hc hf hg hG h36 h38
            go_simp
            with_reducible rfl
          case of25 =>
            refine ask_val [.op 32 17 (Fact.eq _), .op 39 24 (Fact.eq _)] rfl 40 rfl (.inl rfl) ⟨⟨by kernel_rfl, rfl⟩, ⟨by kernel_rfl, rfl⟩, trivial⟩ ?_
            dsimp only [Has, Fact.eq]
            intro e ρ w' hc hf hg hG h32 h39
            go_simp
            with_reducible rfl
          case of26 =>
            refine ask_val [.op 40 25 (Fact.eq _)] rfl 41 rfl (.inl rfl) ⟨⟨by kernel_rfl, rfl⟩, trivial⟩ ?_
            dsimp only [Has, Fact.eq]
            intro e ρ w' hc hf hg hG h40
            go_simp
            with_reducible rfl
          case of27 =>
            exact ask_off rfl ⟨26, false, rfl, by kernel_rfl, rfl⟩
          case of28 =>
            exact ask_off rfl ⟨26, false, rfl, by kernel_rfl, rfl⟩
          case of29 =>
            exact ask_off rfl ⟨26, false, rfl, by kernel_rfl, rfl⟩
          case of30 =>
            exact ask_off rfl ⟨26, false, rfl, by kernel_rfl, rfl⟩
          case of31 =>
            exact ask_off rfl ⟨26, false, rfl, by kernel_rfl, rfl⟩
          case of32 =>
            exact ask_off rfl ⟨26, false, rfl, by kernel_rfl, rfl⟩
          case of33 =>
            exact ask_off rfl ⟨26, false, rfl, by kernel_rfl, rfl⟩
          case of34 =>
            refine ask_val [.op 41 26 (Fact.eq _), .op 48 33 (Fact.eq _)] rfl 49 rfl (.inl rfl) ⟨⟨by kernel_rfl, rfl⟩, ⟨by kernel_rfl, rfl⟩, trivial⟩ ?_
            dsimp only [Has, Fact.eq]
            intro e ρ w' hc hf hg hG h41 h48
            go_simp
            with_reducible rfl
          case of35 =>
            refine ask_val [.op 49 34 (Fact.eq _)] rfl 50 rfl (.inl rfl) ⟨⟨by kernel_rfl, rfl⟩, trivial⟩ ?_
            dsimp only [Has, Fact.eq]
            intro e ρ w' hc hf hg hG h49
            go_simp
            with_reducible rfl
          case of36 =>
            exact ask_off rfl ⟨35, false, rfl, by kernel_rfl, rfl⟩
          case of37 =>
            exact ask_off rfl ⟨35, false, rfl, by kernel_rfl, rfl⟩
          case of38 =>
            exact ask_off rfl ⟨35, false, rfl, by kernel_rfl, rfl⟩
          case of39 =>
            exact ask_off rfl ⟨35, false, rfl, by kernel_rfl, rfl⟩
          case of40 =>
            exact ask_off rfl ⟨35, false, rfl, by kernel_rfl, rfl⟩
          case of41 =>
            refine ask_val [.op 50 35 (Fact.eq _), .op 55 40 (Fact.eq _)] rfl 56 rfl (.inl rfl) ⟨⟨by kernel_rfl, rfl⟩, ⟨by kernel_rfl, rfl⟩, trivial⟩ ?_
            dsimp only [Has, Fact.eq]
            intro e ρ w' hc hf hg hG h50 h55
            go_simp
            with_reducible rfl
          case of42 =>
            refine ask_val [.op 56 41 (Fact.eq _)] rfl 2 rfl (.inl rfl) ⟨⟨by kernel_rfl, rfl⟩, trivial⟩ ?_
            dsimp only [Has, Fact.eq]
            intro e ρ w' hc hf hg hG h56
            go_simp
            with_reducible rfl
          case finf =>
            intro w' hG
            refine fin_eq (fin_eq (fin_eq (fin_eq (fin_eq (fin_eq (fin_eq (fin_eq (fin_eq (fin_eq (fin_eq (fin_eq (fin_eq (fin_eq (fin_eq (fin_eq (fin_eq (fin_eq (fin_eq (fin_eq (fin_eq (fin_eq (fin_eq (fin_eq (fin_eq (fin_eq (fin_eq (fin_eq (fin_eq (fin_eq (fin_eq (fin_eq (fin_eq (fin_eq (fin_eq (fin_eq (fin_eq (fin_eq (fin_eq (fin_eq (fin_eq (fin_eq (fin_eq (fin_nil (a' := ?_) ?_ ?_)))))))))))))))))))))))))))))))))))))))))))
            rotate_left
            · simp only [Act.put, List.setIfInBounds_toArray, List.set_cons_zero, List.set_cons_succ]
              rfl
            go_wp2_with fail
            go_ret
            refine ⟨?_, hG.2.2.2.2.2.2.2.2.out⟩
            rw [HM.out]
            rfl
        have q1 : (t.tok.text == x.f1.toList) = true := by rw [ByteArray.toList_eq]; simpa using c1
        by_cases c2 : t.tok.num = x.f2
        rotate_left
        · have HM : Aside0 (may (tk x) = false) := ⟨by rw [hmay]; exact decide_eq_false (fun e => c2 (by rw [e] <;> rfl))⟩
          have q2 : (t.tok.num == x.f2) = false := by simpa using c2
          refine region_facts (ws := []) (G := fun _ w' => w'.cell? ⟨q, 0, none⟩ = some (.int .i64 0) ∧ w'.cell? ⟨w.heap.size, 0, none⟩ = some (.int .i64 x.f0) ∧ w'.cell? ⟨w.heap.size, 1, none⟩ = some (.string x.f1) ∧ w'.cell? ⟨w.heap.size, 2, none⟩ = some (.int .i64 x.f2) ∧ w'.cell? aq = some (.int .i64 t.tok.kind) ∧ w'.cell? ⟨aq.block, aq.off + 1, none⟩ = some (.string ⟨t.tok.text.toArray⟩) ∧ w'.cell? ⟨aq.block, aq.off + 2, none⟩ = some (.int .i64 t.tok.num) ∧ w'.cell? ⟨aq.block, aq.off + 3, none⟩ = some (.int .i64 (t.place : Int)) ∧ Aside0 (Below w.heap.size w w')) (φs := [Fact.eq ?vg0, Fact.eq ?vg1, Fact.eq ?vg2, Fact.eq ?vg3, Fact.eq ?vg4, Fact.eq ?vg5, Fact.eq ?vg6, Fact.eq ?vg7, Fact.eq ?vg8, Fact.eq ?vg9, Fact.eq ?vg10, Fact.eq ?vg11, Fact.eq ?vg12, Fact.eq ?vg13, Fact.eq ?vg14, Fact.eq ?vg15, Fact.eq ?vg16, Fact.eq ?vg17, Fact.eq ?vg18, Fact.eq ?vg19, Fact.eq ?vg20, Fact.eq ?vg21, Fact.eq ?vg22, Fact.eq ?vg23, Fact.eq ?vg24, Fact.eq ?vg25, Fact.eq ?vg26, Fact.eq ?vg27, Fact.eq ?vg28, Fact.eq ?vg29, Fact.eq ?vg30, Fact.eq ?vg31, Fact.eq ?vg32, Fact.eq ?vg33, Fact.eq ?vg34, Fact.eq ?vg35, Fact.eq undef, Fact.eq undef, Fact.eq undef, Fact.eq undef, Fact.eq undef, Fact.eq ?vg41, Fact.eq ?vg42]) (n := 43) (m := 57) (by kernel_rfl) (by kernel_rfl) rfl rfl (by kernel_rfl) (fun _ _ _ h hb => ⟨pw_cell_below hb h.1, pw_cell_below hb h.2.1, pw_cell_below hb h.2.2.1, pw_cell_below hb h.2.2.2.1, pw_cell_below hb h.2.2.2.2.1, pw_cell_below hb h.2.2.2.2.2.1, pw_cell_below hb h.2.2.2.2.2.2.1, pw_cell_below hb h.2.2.2.2.2.2.2.1, ⟨below_then h.2.2.2.2.2.2.2.2.out h.2.2.2.2.2.2.2.2.out.size hb⟩⟩) (⟨y0, p0, p1, p2, a0, a1, a2, a3, ⟨below_drew HB3.out⟩⟩) ⟨?og0, ?og1, ?og2, ?og3, ?og4, ?og5, ?og6, ?og7, ?og8, ?og9, ?og10, ?og11, ?og12, ?og13, ?og14, ?og15, ?og16, ?og17, ?og18, ?og19, ?og20, ?og21, ?og22, ?og23, ?og24, ?og25, ?og26, ?og27, ?og28, ?og29, ?og30, ?og31, ?og32, ?og33, ?og34, ?og35, ?og36, ?og37, ?og38, ?og39, ?og40, ?og41, ?og42, trivial⟩ ?fing
          case og0 =>
            refine ask_val [.fix 5 _] rfl 15 rfl (.inl rfl) ⟨⟨by kernel_rfl, by conv => lhs; whnf⟩, trivial⟩ ?_
            dsimp only [Has, Fact.eq]
            intro e ρ w' hc hf hg hG h5
            go_simp
            with_reducible rfl
          case og1 =>
            refine ask_val [.op 15 0 (Fact.eq _)] rfl 16 rfl (.inl rfl) ⟨⟨by kernel_rfl, rfl⟩, trivial⟩ ?_
            dsimp only [Has, Fact.eq]
            intro e ρ w' hc hf hg hG h15
            obtain ⟨s0, s1, s2, s3, s4, s5, s6, s7, s8⟩ := hG
            go_simp
            with_reducible rfl
          case og2 =>
            refine ask_val [.op 16 1 (Fact.eq _)] rfl 17 rfl (.inl rfl) ⟨⟨by kernel_rfl, rfl⟩, trivial⟩ ?_
            dsimp only [Has, Fact.eq]
            intro e ρ w' hc hf hg hG h16
            go_simp
            with_reducible rfl
          case og3 =>
            refine ask_val [.op 17 2 (Fact.eq _)] rfl 18 rfl (.inl rfl) ⟨⟨by kernel_rfl, rfl⟩, trivial⟩ ?_
            dsimp only [Has, Fact.eq]
            intro e ρ w' hc hf hg hG h17
            go_simp
            with_reducible rfl
          case og4 =>
            refine ask_val [.fix 4 _] rfl 19 rfl (.inr ⟨3, true, rfl, by kernel_rfl, rfl⟩) ⟨⟨by kernel_rfl, by conv => lhs; whnf⟩, trivial⟩ ?_
            dsimp only [Has, Fact.eq]
            intro e ρ w' hc hf hg hG h4
            go_simp
            with_reducible rfl
          case og5 =>
            refine ask_val [.op 19 4 (Fact.eq _)] rfl 20 rfl (.inr ⟨3, true, rfl, by kernel_rfl, rfl⟩) ⟨⟨by kernel_rfl, rfl⟩, trivial⟩ ?_
            dsimp only [Has, Fact.eq]
            intro e ρ w' hc hf hg hG h19
            go_simp
            with_reducible rfl
          case og6 =>
            refine ask_val [.op 20 5 (Fact.eq _)] rfl 21 rfl (.inr ⟨3, true, rfl, by kernel_rfl, rfl⟩) ⟨⟨by kernel_rfl, rfl⟩, trivial⟩ ?_
            dsimp only [Has, Fact.eq]
            intro e ρ w' hc hf hg hG h20
            go_simp
            with_reducible rfl
          case og7 =>
            refine ask_val [.op 18 3 (Fact.eq _), .op 21 6 (Fact.eq _)] rfl 22 rfl (.inl rfl) ⟨⟨by kernel_rfl, rfl⟩, ⟨by kernel_rfl, rfl⟩, trivial⟩ ?_
            dsimp only [Has, Fact.eq]
            intro e ρ w' hc hf hg hG h18 h21
            go_simp
            with_reducible rfl
          case og8 =>
            refine ask_val [.op 22 7 (Fact.eq _)] rfl 23 rfl (.inl rfl) ⟨⟨by kernel_rfl, rfl⟩, trivial⟩ ?_
            dsimp only [Has, Fact.eq]
            intro e ρ w' hc hf hg hG h22
            go_simp
            with_reducible rfl
          case og9 =>
            refine ask_val [.fix 4 _] rfl 24 rfl (.inr ⟨8, true, rfl, by kernel_rfl, rfl⟩) ⟨⟨by kernel_rfl, by conv => lhs; whnf⟩, trivial⟩ ?_
            dsimp only [Has, Fact.eq]
            intro e ρ w' hc hf hg hG h4
            go_simp
            with_reducible rfl
          case og10 =>
            refine ask_val [.op 24 9 (Fact.eq _)] rfl 25 rfl (.inr ⟨8, true, rfl, by kernel_rfl, rfl⟩) ⟨⟨by kernel_rfl, rfl⟩, trivial⟩ ?_
            dsimp only [Has, Fact.eq]
            intro e ρ w' hc hf hg hG h24
            go_simp
            with_reducible rfl
          case og11 =>
            refine ask_val [.op 25 10 (Fact.eq _)] rfl 26 rfl (.inr ⟨8, true, rfl, by kernel_rfl, rfl⟩) ⟨⟨by kernel_rfl, rfl⟩, trivial⟩ ?_
            dsimp only [Has, Fact.eq]
            intro e ρ w' hc hf hg hG h25
            go_simp
            with_reducible rfl
          case og12 =>
            refine ask_val [.op 26 11 (Fact.eq _)] rfl 27 rfl (.inr ⟨8, true, rfl, by kernel_rfl, rfl⟩) ⟨⟨by kernel_rfl, rfl⟩, trivial⟩ ?_
            dsimp only [Has, Fact.eq]
            intro e ρ w' hc hf hg hG h26
            obtain ⟨s0, s1, s2, s3, s4, s5, s6, s7, s8⟩ := hG
            go_simp
            with_reducible rfl
          case og13 =>
            refine ask_val [.fix 1 _] rfl 28 rfl (.inr ⟨8, true, rfl, by kernel_rfl, rfl⟩) ⟨⟨by kernel_rfl, by conv => lhs; whnf⟩, trivial⟩ ?_
            dsimp only [Has, Fact.eq]
            intro e ρ w' hc hf hg hG h1
            go_simp
            with_reducible rfl
          case og14 =>
            refine ask_val [.op 28 13 (Fact.eq _)] rfl 29 rfl (.inr ⟨8, true, rfl, by kernel_rfl, rfl⟩) ⟨⟨by kernel_rfl, rfl⟩, trivial⟩ ?_
            dsimp only [Has, Fact.eq]
            intro e ρ w' hc hf hg hG h28
            obtain ⟨s0, s1, s2, s3, s4, s5, s6, s7, s8⟩ := hG
            go_simp
            with_reducible rfl
          case og15 =>
            refine ask_val [.op 27 12 (Fact.eq _), .op 29 14 (Fact.eq _)] rfl 30 rfl (.inr ⟨8, true, rfl, by kernel_rfl, rfl⟩) ⟨⟨by kernel_rfl, rfl⟩, ⟨by kernel_rfl, rfl⟩, trivial⟩ ?_
            dsimp only [Has, Fact.eq]
            intro e ρ w' hc hf hg hG h27 h29
            go_simp
            with_reducible rfl
          case og16 =>
            refine ask_val [.op 23 8 (Fact.eq _), .op 30 15 (Fact.eq _)] rfl 31 rfl (.inl rfl) ⟨⟨by kernel_rfl, rfl⟩, ⟨by kernel_rfl, rfl⟩, trivial⟩ ?_
            dsimp only [Has, Fact.eq]
            intro e ρ w' hc hf hg hG h23 h30
            go_simp
            with_reducible rfl
          case og17 =>
            refine ask_val [.op 31 16 (Fact.eq _)] rfl 32 rfl (.inl rfl) ⟨⟨by kernel_rfl, rfl⟩, trivial⟩ ?_
            dsimp only [Has, Fact.eq]
            intro e ρ w' hc hf hg hG h31
            go_simp
            with_reducible rfl
          case og18 =>
            refine ask_val [.fix 4 _] rfl 33 rfl (.inr ⟨17, true, rfl, by kernel_rfl, rfl⟩) ⟨⟨by kernel_rfl, by conv => lhs; whnf⟩, trivial⟩ ?_
            dsimp only [Has, Fact.eq]
            intro e ρ w' hc hf hg hG h4
            go_simp
            with_reducible rfl
          case og19 =>
            refine ask_val [.op 33 18 (Fact.eq _)] rfl 34 rfl (.inr ⟨17, true, rfl, by kernel_rfl, rfl⟩) ⟨⟨by kernel_rfl, rfl⟩, trivial⟩ ?_
            dsimp only [Has, Fact.eq]
            intro e ρ w' hc hf hg hG h33
            go_simp
            with_reducible rfl
          case og20 =>
            refine ask_val [.op 34 19 (Fact.eq _)] rfl 35 rfl (.inr ⟨17, true, rfl, by kernel_rfl, rfl⟩) ⟨⟨by kernel_rfl, rfl⟩, trivial⟩ ?_
            dsimp only [Has, Fact.eq]
            intro e ρ w' hc hf hg hG h34
            go_simp
            with_reducible rfl
          case og21 =>
            refine ask_val [.op 35 20 (Fact.eq _)] rfl 36 rfl (.inr ⟨17, true, rfl, by kernel_rfl, rfl⟩) ⟨⟨by kernel_rfl, rfl⟩, trivial⟩ ?_
            dsimp only [Has, Fact.eq]
            intro e ρ w' hc hf hg hG h35
            obtain ⟨s0, s1, s2, s3, s4, s5, s6, s7, s8⟩ := hG
            go_simp
            with_reducible rfl
          case og22 =>
            refine ask_val [.fix 1 _] rfl 37 rfl (.inr ⟨17, true, rfl, by kernel_rfl, rfl⟩) ⟨⟨by kernel_rfl, by conv => lhs; whnf⟩, trivial⟩ ?_
            dsimp only [Has, Fact.eq]
            intro e ρ w' hc hf hg hG h1
            go_simp
            with_reducible rfl
          case og23 =>
            refine ask_val [.op 37 22 (Fact.eq _)] rfl 38 rfl (.inr ⟨17, true, rfl, by kernel_rfl, rfl⟩) ⟨⟨by kernel_rfl, rfl⟩, trivial⟩ ?_
            dsimp only [Has, Fact.eq]
            intro e ρ w' hc hf hg hG h37
            obtain ⟨s0, s1, s2, s3, s4, s5, s6, s7, s8⟩ := hG
            go_simp
            with_reducible rfl
          case og24 =>
            refine ask_val [.op 36 21 (Fact.eq _), .op 38 23 (Fact.eq _)] rfl 39 rfl (.inr ⟨17, true, rfl, by kernel_rfl, rfl⟩) ⟨⟨by kernel_rfl, rfl⟩, ⟨by kernel_rfl, rfl⟩, trivial⟩ ?_
            dsimp only [Has, Fact.eq]
            intro e ρ w' hc hf hg hG h36 h38
            go_simp
            with_reducible rfl
          case og25 =>
            refine ask_val [.op 32 17 (Fact.eq _), .op 39 24 (Fact.eq _)] rfl 40 rfl (.inl rfl) ⟨⟨by kernel_rfl, rfl⟩, ⟨by kernel_rfl, rfl⟩, trivial⟩ ?_
            dsimp only [Has, Fact.eq]
            intro e ρ w' hc hf hg hG h32 h39
            go_simp
            with_reducible rfl
          case og26 =>
            refine ask_val [.op 40 25 (Fact.eq _)] rfl 41 rfl (.inl rfl) ⟨⟨by kernel_rfl, rfl⟩, trivial⟩ ?_
            dsimp only [Has, Fact.eq]
            intro e ρ w' hc hf hg hG h40
            go_simp
            with_reducible rfl
          case og27 =>
            refine ask_val [.fix 4 _] rfl 42 rfl (.inr ⟨26, true, rfl, by kernel_rfl, rfl⟩) ⟨⟨by kernel_rfl, by conv => lhs; whnf⟩, trivial⟩ ?_
            dsimp only [Has, Fact.eq]
            intro e ρ w' hc hf hg hG h4
            go_simp
            with_reducible rfl
          case og28 =>
            refine ask_val [.op 42 27 (Fact.eq _)] rfl 43 rfl (.inr ⟨26, true, rfl, by kernel_rfl, rfl⟩) ⟨⟨by kernel_rfl, rfl⟩, trivial⟩ ?_
            dsimp only [Has, Fact.eq]
            intro e ρ w' hc hf hg hG h42
            go_simp
            with_reducible rfl
          case og29 =>
            refine ask_val [.op 43 28 (Fact.eq _)] rfl 44 rfl (.inr ⟨26, true, rfl, by kernel_rfl, rfl⟩) ⟨⟨by kernel_rfl, rfl⟩, trivial⟩ ?_
            dsimp only [Has, Fact.eq]
            intro e ρ w' hc hf hg hG h43
            go_simp
            with_reducible rfl
          case og30 =>
            refine ask_val [.op 44 29 (Fact.eq _)] rfl 45 rfl (.inr ⟨26, true, rfl, by kernel_rfl, rfl⟩) ⟨⟨by kernel_rfl, rfl⟩, trivial⟩ ?_
            dsimp only [Has, Fact.eq]
            intro e ρ w' hc hf hg hG h44
            obtain ⟨s0, s1, s2, s3, s4, s5, s6, s7, s8⟩ := hG
            go_simp
            with_reducible rfl
          case og31 =>
            refine ask_val [.fix 1 _] rfl 46 rfl (.inr ⟨26, true, rfl, by kernel_rfl, rfl⟩) ⟨⟨by kernel_rfl, by conv => lhs; whnf⟩, trivial⟩ ?_
            dsimp only [Has, Fact.eq]
            intro e ρ w' hc hf hg hG h1
            go_simp
            with_reducible rfl
          case og32 =>
            refine ask_val [.op 46 31 (Fact.eq _)] rfl 47 rfl (.inr ⟨26, true, rfl, by kernel_rfl, rfl⟩) ⟨⟨by kernel_rfl, rfl⟩, trivial⟩ ?_
            dsimp only [Has, Fact.eq]
            intro e ρ w' hc hf hg hG h46
            obtain ⟨s0, s1, s2, s3, s4, s5, s6, s7, s8⟩ := hG
            go_simp
            with_reducible rfl
          case og33 =>
            refine ask_val [.op 45 30 (Fact.eq _), .op 47 32 (Fact.eq _)] rfl 48 rfl (.inr ⟨26, true, rfl, by kernel_rfl, rfl⟩) ⟨⟨by kernel_rfl, rfl⟩, ⟨by kernel_rfl, rfl⟩, trivial⟩ ?_
            dsimp only [Has, Fact.eq]
            intro e ρ w' hc hf hg hG h45 h47
            go_simp
            with_reducible rfl
          case og34 =>
            refine ask_val [.op 41 26 (Fact.eq _), .op 48 33 (Fact.eq _)] rfl 49 rfl (.inl rfl) ⟨⟨by kernel_rfl, rfl⟩, ⟨by kernel_rfl, rfl⟩, trivial⟩ ?_
            dsimp only [Has, Fact.eq]
            intro e ρ w' hc hf hg hG h41 h48
            go_simp
            with_reducible rfl
          case og35 =>
            refine ask_val [.op 49 34 (Fact.eq _)] rfl 50 rfl (.inl rfl) ⟨⟨by kernel_rfl, rfl⟩, trivial⟩ ?_
            dsimp only [Has, Fact.eq]
            intro e ρ w' hc hf hg hG h49
            go_simp
            with_reducible rfl
          case og36 =>
            exact ask_off rfl ⟨35, false, rfl, by kernel_rfl, rfl⟩
          case og37 =>
            exact ask_off rfl ⟨35, false, rfl, by kernel_rfl, rfl⟩
          case og38 =>
            exact ask_off rfl ⟨35, false, rfl, by kernel_rfl, rfl⟩
          case og39 =>
            exact ask_off rfl ⟨35, false, rfl, by kernel_rfl, rfl⟩
          case og40 =>
            exact ask_off rfl ⟨35, false, rfl, by kernel_rfl, rfl⟩
          case og41 =>
            refine ask_val [.op 50 35 (Fact.eq _), .op 55 40 (Fact.eq _)] rfl 56 rfl (.inl rfl) ⟨⟨by kernel_rfl, rfl⟩, ⟨by kernel_rfl, rfl⟩, trivial⟩ ?_
            dsimp only [Has, Fact.eq]
            intro e ρ w' hc hf hg hG h50 h55
            go_simp
            with_reducible rfl
          case og42 =>
            refine ask_val [.op 56 41 (Fact.eq _)] rfl 2 rfl (.inl rfl) ⟨⟨by kernel_rfl, rfl⟩, trivial⟩ ?_
            dsimp only [Has, Fact.eq]
            intro e ρ w' hc hf hg hG h56
            go_simp
            with_reducible rfl
          case fing =>
            intro w' hG
            refine fin_eq (fin_eq (fin_eq (fin_eq (fin_eq (fin_eq (fin_eq (fin_eq (fin_eq (fin_eq (fin_eq (fin_eq (fin_eq (fin_eq (fin_eq (fin_eq (fin_eq (fin_eq (fin_eq (fin_eq (fin_eq (fin_eq (fin_eq (fin_eq (fin_eq (fin_eq (fin_eq (fin_eq (fin_eq (fin_eq (fin_eq (fin_eq (fin_eq (fin_eq (fin_eq (fin_eq (fin_eq (fin_eq (fin_eq (fin_eq (fin_eq (fin_eq (fin_eq (fin_nil (a' := ?_) ?_ ?_)))))))))))))))))))))))))))))))))))))))))))
            rotate_left
            · simp only [Act.put, List.setIfInBounds_toArray, List.set_cons_zero, List.set_cons_succ]
              rfl
            go_wp2_with fail
            go_ret
            refine ⟨?_, hG.2.2.2.2.2.2.2.2.out⟩
            rw [HM.out]
            rfl
        have q2 : (t.tok.num == x.f2) = true := by simpa using c2
        by_cases c3 : t.place = 0
        rotate_left
        · have HM : Aside0 (may (tk x) = false) := ⟨by rw [hmay]; exact decide_eq_false (fun e => c3 (by rw [e] <;> rfl))⟩
          have q3 : (t.place == 0) = false := by simpa using c3
          have r3 : ((t.place : Int) == 0) = false := by first | (rw [beq_iff_eq]; omega) | (rw [beq_eq_false_iff_ne]; omega)
          refine region_facts (ws := []) (G := fun _ w' => w'.cell? ⟨q, 0, none⟩ = some (.int .i64 0) ∧ w'.cell? ⟨w.heap.size, 0, none⟩ = some (.int .i64 x.f0) ∧ w'.cell? ⟨w.heap.size, 1, none⟩ = some (.string x.f1) ∧ w'.cell? ⟨w.heap.size, 2, none⟩ = some (.int .i64 x.f2) ∧ w'.cell? aq = some (.int .i64 t.tok.kind) ∧ w'.cell? ⟨aq.block, aq.off + 1, none⟩ = some (.string ⟨t.tok.text.toArray⟩) ∧ w'.cell? ⟨aq.block, aq.off + 2, none⟩ = some (.int .i64 t.tok.num) ∧ w'.cell? ⟨aq.block, aq.off + 3, none⟩ = some (.int .i64 (t.place : Int)) ∧ Aside0 (Below w.heap.size w w')) (φs := [Fact.eq ?vh0, Fact.eq ?vh1, Fact.eq ?vh2, Fact.eq ?vh3, Fact.eq ?vh4, Fact.eq ?vh5, Fact.eq ?vh6, Fact.eq ?vh7, Fact.eq ?vh8, Fact.eq ?vh9, Fact.eq ?vh10, Fact.eq ?vh11, Fact.eq ?vh12, Fact.eq ?vh13, Fact.eq ?vh14, Fact.eq ?vh15, Fact.eq ?vh16, Fact.eq ?vh17, Fact.eq ?vh18, Fact.eq ?vh19, Fact.eq ?vh20, Fact.eq ?vh21, Fact.eq ?vh22, Fact.eq ?vh23, Fact.eq ?vh24, Fact.eq ?vh25, Fact.eq ?vh26, Fact.eq ?vh27, Fact.eq ?vh28, Fact.eq ?vh29, Fact.eq ?vh30, Fact.eq ?vh31, Fact.eq ?vh32, Fact.eq ?vh33, Fact.eq ?vh34, Fact.eq ?vh35, Fact.eq ?vh36, Fact.eq ?vh37, Fact.eq ?vh38, Fact.eq ?vh39, Fact.eq ?vh40, Fact.eq ?vh41, Fact.eq ?vh42]) (n := 43) (m := 57) (by kernel_rfl) (by kernel_rfl) rfl rfl (by kernel_rfl) (fun _ _ _ h hb => ⟨pw_cell_below hb h.1, pw_cell_below hb h.2.1, pw_cell_below hb h.2.2.1, pw_cell_below hb h.2.2.2.1, pw_cell_below hb h.2.2.2.2.1, pw_cell_below hb h.2.2.2.2.2.1, pw_cell_below hb h.2.2.2.2.2.2.1, pw_cell_below hb h.2.2.2.2.2.2.2.1, ⟨below_then h.2.2.2.2.2.2.2.2.out h.2.2.2.2.2.2.2.2.out.size hb⟩⟩) (⟨y0, p0, p1, p2, a0, a1, a2, a3, ⟨below_drew HB3.out⟩⟩) ⟨?oh0, ?oh1, ?oh2, ?oh3, ?oh4, ?oh5, ?oh6, ?oh7, ?oh8, ?oh9, ?oh10, ?oh11, ?oh12, ?oh13, ?oh14, ?oh15, ?oh16, ?oh17, ?oh18, ?oh19, ?oh20, ?oh21, ?oh22, ?oh23, ?oh24, ?oh25, ?oh26, ?oh27, ?oh28, ?oh29, ?oh30, ?oh31, ?oh32, ?oh33, ?oh34, ?oh35, ?oh36, ?oh37, ?oh38, ?oh39, ?oh40, ?oh41, ?oh42, trivial⟩ ?finh
          case oh0 =>
            refine ask_val [.fix 5 _] rfl 15 rfl (.inl rfl) ⟨⟨by kernel_rfl, by conv => lhs; whnf⟩, trivial⟩ ?_
            dsimp only [Has, Fact.eq]
            intro e ρ w' hc hf hg hG h5
            go_simp
            with_reducible rfl
          case oh1 =>
            refine ask_val [.op 15 0 (Fact.eq _)] rfl 16 rfl (.inl rfl) ⟨⟨by kernel_rfl, rfl⟩, trivial⟩ ?_
            dsimp only [Has, Fact.eq]
            intro e ρ w' hc hf hg hG h15
            obtain ⟨s0, s1, s2, s3, s4, s5, s6, s7, s8⟩ := hG
            go_simp
            with_reducible rfl
          case oh2 =>
            refine ask_val [.op 16 1 (Fact.eq _)] rfl 17 rfl (.inl rfl) ⟨⟨by kernel_rfl, rfl⟩, trivial⟩ ?_
            dsimp only [Has, Fact.eq]
            intro e ρ w' hc hf hg hG h16
            go_simp
            with_reducible rfl
          case oh3 =>
            refine ask_val [.op 17 2 (Fact.eq _)] rfl 18 rfl (.inl rfl) ⟨⟨by kernel_rfl, rfl⟩, trivial⟩ ?_
            dsimp only [Has, Fact.eq]
            intro e ρ w' hc hf hg hG h17
            go_simp
            with_reducible rfl
          case oh4 =>
            refine ask_val [.fix 4 _] rfl 19 rfl (.inr ⟨3, true, rfl, by kernel_rfl, rfl⟩) ⟨⟨by kernel_rfl, by conv => lhs; whnf⟩, trivial⟩ ?_
            dsimp only [Has, Fact.eq]
            intro e ρ w' hc hf hg hG h4
            go_simp
            with_reducible rfl
          case oh5 =>
            refine ask_val [.op 19 4 (Fact.eq _)] rfl 20 rfl (.inr ⟨3, true, rfl, by kernel_rfl, rfl⟩) ⟨⟨by kernel_rfl, rfl⟩, trivial⟩ ?_
            dsimp only [Has, Fact.eq]
            intro e ρ w' hc hf hg hG h19
            go_simp
            with_reducible rfl
          case oh6 =>
            refine ask_val [.op 20 5 (Fact.eq _)] rfl 21 rfl (.inr ⟨3, true, rfl, by kernel_rfl, rfl⟩) ⟨⟨by kernel_rfl, rfl⟩, trivial⟩ ?_
            dsimp only [Has, Fact.eq]
            intro e ρ w' hc hf hg hG h20
            go_simp
            with_reducible rfl
          case oh7 =>
            refine ask_val [.op 18 3 (Fact.eq _), .op 21 6 (Fact.eq _)] rfl 22 rfl (.inl rfl) ⟨⟨by kernel_rfl, rfl⟩, ⟨by kernel_rfl, rfl⟩, trivial⟩ ?_
            dsimp only [Has, Fact.eq]
            intro e ρ w' hc hf hg hG h18 h21
            go_simp
            with_reducible rfl
          case oh8 =>
            refine ask_val [.op 22 7 (Fact.eq _)] rfl 23 rfl (.inl rfl) ⟨⟨by kernel_rfl, rfl⟩, trivial⟩ ?_
            dsimp only [Has, Fact.eq]
            intro e ρ w' hc hf hg hG h22
            go_simp
            with_reducible rfl
          case oh9 =>
            refine ask_val [.fix 4 _] rfl 24 rfl (.inr ⟨8, true, rfl, by kernel_rfl, rfl⟩) ⟨⟨by kernel_rfl, by conv => lhs; whnf⟩, trivial⟩ ?_
            dsimp only [Has, Fact.eq]
            intro e ρ w' hc hf hg hG h4
            go_simp
            with_reducible rfl
          case oh10 =>
            refine ask_val [.op 24 9 (Fact.eq _)] rfl 25 rfl (.inr ⟨8, true, rfl, by kernel_rfl, rfl⟩) ⟨⟨by kernel_rfl, rfl⟩, trivial⟩ ?_
            dsimp only [Has, Fact.eq]
            intro e ρ w' hc hf hg hG h24
            go_simp
            with_reducible rfl
          case oh11 =>
            refine ask_val [.op 25 10 (Fact.eq _)] rfl 26 rfl (.inr ⟨8, true, rfl, by kernel_rfl, rfl⟩) ⟨⟨by kernel_rfl, rfl⟩, trivial⟩ ?_
            dsimp only [Has, Fact.eq]
            intro e ρ w' hc hf hg hG h25
            go_simp
            with_reducible rfl
          case oh12 =>
            refine ask_val [.op 26 11 (Fact.eq _)] rfl 27 rfl (.inr ⟨8, true, rfl, by kernel_rfl, rfl⟩) ⟨⟨by kernel_rfl, rfl⟩, trivial⟩ ?_
            dsimp only [Has, Fact.eq]
            intro e ρ w' hc hf hg hG h26
            obtain ⟨s0, s1, s2, s3, s4, s5, s6, s7, s8⟩ := hG
            go_simp
            with_reducible rfl
          case oh13 =>
            refine ask_val [.fix 1 _] rfl 28 rfl (.inr ⟨8, true, rfl, by kernel_rfl, rfl⟩) ⟨⟨by kernel_rfl, by conv => lhs; whnf⟩, trivial⟩ ?_
            dsimp only [Has, Fact.eq]
            intro e ρ w' hc hf hg hG h1
            go_simp
            with_reducible rfl
          case oh14 =>
            refine ask_val [.op 28 13 (Fact.eq _)] rfl 29 rfl (.inr ⟨8, true, rfl, by kernel_rfl, rfl⟩) ⟨⟨by kernel_rfl, rfl⟩, trivial⟩ ?_
            dsimp only [Has, Fact.eq]
            intro e ρ w' hc hf hg hG h28
            obtain ⟨s0, s1, s2, s3, s4, s5, s6, s7, s8⟩ := hG
            go_simp
            with_reducible rfl
          case oh15 =>
            refine ask_val [.op 27 12 (Fact.eq _), .op 29 14 (Fact.eq _)] rfl 30 rfl (.inr ⟨8, true, rfl, by kernel_rfl, rfl⟩) ⟨⟨by kernel_rfl, rfl⟩, ⟨by kernel_rfl, rfl⟩, trivial⟩ ?_
            dsimp only [Has, Fact.eq]
            intro e ρ w' hc hf hg hG h27 h29
            go_simp
            with_reducible rfl
          case oh16 =>
            refine ask_val [.op 23 8 (Fact.eq _), .op 30 15 (Fact.eq _)] rfl 31 rfl (.inl rfl) ⟨⟨by kernel_rfl, rfl⟩, ⟨by kernel_rfl, rfl⟩, trivial⟩ ?_
            dsimp only [Has, Fact.eq]
            intro e ρ w' hc hf hg hG h23 h30
            go_simp
            with_reducible rfl
          case oh17 =>
            refine ask_val [.op 31 16 (Fact.eq _)] rfl 32 rfl (.inl rfl) ⟨⟨by kernel_rfl, rfl⟩, trivial⟩ ?_
            dsimp only [Has, Fact.eq]
            intro e ρ w' hc hf hg hG h31
            go_simp
            with_reducible rfl
          case oh18 =>
            refine ask_val [.fix 4 _] rfl 33 rfl (.inr ⟨17, true, rfl, by kernel_rfl, rfl⟩) ⟨⟨by kernel_rfl, by conv => lhs; whnf⟩, trivial⟩ ?_
            dsimp only [Has, Fact.eq]
            intro e ρ w' hc hf hg hG h4
            go_simp
            with_reducible rfl
          case oh19 =>
            refine ask_val [.op 33 18 (Fact.eq _)] rfl 34 rfl (.inr ⟨17, true, rfl, by kernel_rfl, rfl⟩) ⟨⟨by kernel_rfl, rfl⟩, trivial⟩ ?_
            dsimp only [Has, Fact.eq]
            intro e ρ w' hc hf hg hG h33
            go_simp
            with_reducible rfl
          case oh20 =>
            refine ask_val [.op 34 19 (Fact.eq _)] rfl 35 rfl (.inr ⟨17, true, rfl, by kernel_rfl, rfl⟩) ⟨⟨by kernel_rfl, rfl⟩, trivial⟩ ?_
            dsimp only [Has, Fact.eq]
            intro e ρ w' hc hf hg hG h34
            go_simp
            with_reducible rfl
          case oh21 =>
            refine ask_val [.op 35 20 (Fact.eq _)] rfl 36 rfl (.inr ⟨17, true, rfl, by kernel_rfl, rfl⟩) ⟨⟨by kernel_rfl, rfl⟩, trivial⟩ ?_
            dsimp only [Has, Fact.eq]
            intro e ρ w' hc hf hg hG h35
            obtain ⟨s0, s1, s2, s3, s4, s5, s6, s7, s8⟩ := hG
            go_simp
            with_reducible rfl
          case oh22 =>
            refine ask_val [.fix 1 _] rfl 37 rfl (.inr ⟨17, true, rfl, by kernel_rfl, rfl⟩) ⟨⟨by kernel_rfl, by conv => lhs; whnf⟩, trivial⟩ ?_
            dsimp only [Has, Fact.eq]
            intro e ρ w' hc hf hg hG h1
            go_simp
            with_reducible rfl
          case oh23 =>
            refine ask_val [.op 37 22 (Fact.eq _)] rfl 38 rfl (.inr ⟨17, true, rfl, by kernel_rfl, rfl⟩) ⟨⟨by kernel_rfl, rfl⟩, trivial⟩ ?_
            dsimp only [Has, Fact.eq]
            intro e ρ w' hc hf hg hG h37
            obtain ⟨s0, s1, s2, s3, s4, s5, s6, s7, s8⟩ := hG
            go_simp
            with_reducible rfl
          case oh24 =>
            refine ask_val [.op 36 21 (Fact.eq _), .op 38 23 (Fact.eq _)] rfl 39 rfl (.inr ⟨17, true, rfl, by kernel_rfl, rfl⟩) ⟨⟨by kernel_rfl, rfl⟩, ⟨by kernel_rfl, rfl⟩, trivial⟩ ?_
            dsimp only [Has, Fact.eq]
            intro e ρ w' hc hf hg hG h36 h38
            go_simp
            with_reducible rfl
          case oh25 =>
            refine ask_val [.op 32 17 (Fact.eq _), .op 39 24 (Fact.eq _)] rfl 40 rfl (.inl rfl) ⟨⟨by kernel_rfl, rfl⟩, ⟨by kernel_rfl, rfl⟩, trivial⟩ ?_
            dsimp only [Has, Fact.eq]
            intro e ρ w' hc hf hg hG h32 h39
            go_simp
            with_reducible rfl
          case oh26 =>
            refine ask_val [.op 40 25 (Fact.eq _)] rfl 41 rfl (.inl rfl) ⟨⟨by kernel_rfl, rfl⟩, trivial⟩ ?_
            dsimp only [Has, Fact.eq]
            intro e ρ w' hc hf hg hG h40
            go_simp
            with_reducible rfl
          case oh27 =>
            refine ask_val [.fix 4 _] rfl 42 rfl (.inr ⟨26, true, rfl, by kernel_rfl, rfl⟩) ⟨⟨by kernel_rfl, by conv => lhs; whnf⟩, trivial⟩ ?_
            dsimp only [Has, Fact.eq]
            intro e ρ w' hc hf hg hG h4
            go_simp
            with_reducible rfl
          case oh28 =>
            refine ask_val [.op 42 27 (Fact.eq _)] rfl 43 rfl (.inr ⟨26, true, rfl, by kernel_rfl, rfl⟩) ⟨⟨by kernel_rfl, rfl⟩, trivial⟩ ?_
            dsimp only [Has, Fact.eq]
            intro e ρ w' hc hf hg hG h42
            go_simp
            with_reducible rfl
          case oh29 =>
            refine ask_val [.op 43 28 (Fact.eq _)] rfl 44 rfl (.inr ⟨26, true, rfl, by kernel_rfl, rfl⟩) ⟨⟨by kernel_rfl, rfl⟩, trivial⟩ ?_
            dsimp only [Has, Fact.eq]
            intro e ρ w' hc hf hg hG h43
            go_simp
            with_reducible rfl
          case oh30 =>
            refine ask_val [.op 44 29 (Fact.eq _)] rfl 45 rfl (.inr ⟨26, true, rfl, by kernel_rfl, rfl⟩) ⟨⟨by kernel_rfl, rfl⟩, trivial⟩ ?_
            dsimp only [Has, Fact.eq]
            intro e ρ w' hc hf hg hG h44
            obtain ⟨s0, s1, s2, s3, s4, s5, s6, s7, s8⟩ := hG
            go_simp
            with_reducible rfl
          case oh31 =>
            refine ask_val [.fix 1 _] rfl 46 rfl (.inr ⟨26, true, rfl, by kernel_rfl, rfl⟩) ⟨⟨by kernel_rfl, by conv => lhs; whnf⟩, trivial⟩ ?_
            dsimp only [Has, Fact.eq]
            intro e ρ w' hc hf hg hG h1
            go_simp
            with_reducible rfl
          case oh32 =>
            refine ask_val [.op 46 31 (Fact.eq _)] rfl 47 rfl (.inr ⟨26, true, rfl, by kernel_rfl, rfl⟩) ⟨⟨by kernel_rfl, rfl⟩, trivial⟩ ?_
            dsimp only [Has, Fact.eq]
            intro e ρ w' hc hf hg hG h46
            obtain ⟨s0, s1, s2, s3, s4, s5, s6, s7, s8⟩ := hG
            go_simp
            with_reducible rfl
          case oh33 =>
            refine ask_val [.op 45 30 (Fact.eq _), .op 47 32 (Fact.eq _)] rfl 48 rfl (.inr ⟨26, true, rfl, by kernel_rfl, rfl⟩) ⟨⟨by kernel_rfl, rfl⟩, ⟨by kernel_rfl, rfl⟩, trivial⟩ ?_
            dsimp only [Has, Fact.eq]
            intro e ρ w' hc hf hg hG h45 h47
            go_simp
            with_reducible rfl
          case oh34 =>
            refine ask_val [.op 41 26 (Fact.eq _), .op 48 33 (Fact.eq _)] rfl 49 rfl (.inl rfl) ⟨⟨by kernel_rfl, rfl⟩, ⟨by kernel_rfl, rfl⟩, trivial⟩ ?_
            dsimp only [Has, Fact.eq]
            intro e ρ w' hc hf hg hG h41 h48
            go_simp
            with_reducible rfl
          case oh35 =>
            refine ask_val [.op 49 34 (Fact.eq _)] rfl 50 rfl (.inl rfl) ⟨⟨by kernel_rfl, rfl⟩, trivial⟩ ?_
            dsimp only [Has, Fact.eq]
            intro e ρ w' hc hf hg hG h49
            go_simp
            with_reducible rfl
          case oh36 =>
            refine ask_val [.fix 4 _] rfl 51 rfl (.inr ⟨35, true, rfl, by kernel_rfl, rfl⟩) ⟨⟨by kernel_rfl, by conv => lhs; whnf⟩, trivial⟩ ?_
            dsimp only [Has, Fact.eq]
            intro e ρ w' hc hf hg hG h4
            go_simp
            with_reducible rfl
          case oh37 =>
            refine ask_val [.op 51 36 (Fact.eq _)] rfl 52 rfl (.inr ⟨35, true, rfl, by kernel_rfl, rfl⟩) ⟨⟨by kernel_rfl, rfl⟩, trivial⟩ ?_
            dsimp only [Has, Fact.eq]
            intro e ρ w' hc hf hg hG h51
            go_simp
            with_reducible rfl
          case oh38 =>
            refine ask_val [.op 52 37 (Fact.eq _)] rfl 53 rfl (.inr ⟨35, true, rfl, by kernel_rfl, rfl⟩) ⟨⟨by kernel_rfl, rfl⟩, trivial⟩ ?_
            dsimp only [Has, Fact.eq]
            intro e ρ w' hc hf hg hG h52
            go_simp
            with_reducible rfl
          case oh39 =>
            refine ask_val [.op 53 38 (Fact.eq _)] rfl 54 rfl (.inr ⟨35, true, rfl, by kernel_rfl, rfl⟩) ⟨⟨by kernel_rfl, rfl⟩, trivial⟩ ?_
            dsimp only [Has, Fact.eq]
            intro e ρ w' hc hf hg hG h53
            obtain ⟨s0, s1, s2, s3, s4, s5, s6, s7, s8⟩ := hG
            go_simp
            with_reducible rfl
          case oh40 =>
            refine ask_val [.op 54 39 (Fact.eq _)] rfl 55 rfl (.inr ⟨35, true, rfl, by kernel_rfl, rfl⟩) ⟨⟨by kernel_rfl, rfl⟩, trivial⟩ ?_
            dsimp only [Has, Fact.eq]
            intro e ρ w' hc hf hg hG h54
            go_simp
            with_reducible rfl
          case oh41 =>
            refine ask_val [.op 50 35 (Fact.eq _), .op 55 40 (Fact.eq _)] rfl 56 rfl (.inl rfl) ⟨⟨by kernel_rfl, rfl⟩, ⟨by kernel_rfl, rfl⟩, trivial⟩ ?_
            dsimp only [Has, Fact.eq]
            intro e ρ w' hc hf hg hG h50 h55
            go_simp
            with_reducible rfl
          case oh42 =>
            refine ask_val [.op 56 41 (Fact.eq _)] rfl 2 rfl (.inl rfl) ⟨⟨by kernel_rfl, rfl⟩, trivial⟩ ?_
            dsimp only [Has, Fact.eq]
            intro e ρ w' hc hf hg hG h56
            go_simp
            with_reducible rfl
          case finh =>
            intro w' hG
            refine fin_eq (fin_eq (fin_eq (fin_eq (fin_eq (fin_eq (fin_eq (fin_eq (fin_eq (fin_eq (fin_eq (fin_eq (fin_eq (fin_eq (fin_eq (fin_eq (fin_eq (fin_eq (fin_eq (fin_eq (fin_eq (fin_eq (fin_eq (fin_eq (fin_eq (fin_eq (fin_eq (fin_eq (fin_eq (fin_eq (fin_eq (fin_eq (fin_eq (fin_eq (fin_eq (fin_eq (fin_eq (fin_eq (fin_eq (fin_eq (fin_eq (fin_eq (fin_eq (fin_nil (a' := ?_) ?_ ?_)))))))))))))))))))))))))))))))))))))))))))
            rotate_left
            · simp only [Act.put, List.setIfInBounds_toArray, List.set_cons_zero, List.set_cons_succ]
              rfl
            go_wp2_with fail
            go_ret
            refine ⟨?_, hG.2.2.2.2.2.2.2.2.out⟩
            rw [HM.out]
            rfl
        have q3 : (t.place == 0) = true := by simpa using c3
        have r3 : ((t.place : Int) == 0) = true := by first | (rw [beq_iff_eq]; omega) | (rw [beq_eq_false_iff_ne]; omega)
        have HM : Aside0 (may (tk x) = true) := ⟨by rw [hmay]; refine decide_eq_true ?_; obtain ⟨⟨k1, s1, n1⟩, pl⟩ := t; simp only at c0 c1 c2 c3; subst c0 c1 c2 c3; rfl⟩
        refine region_facts (ws := []) (G := fun _ w' => w'.cell? ⟨q, 0, none⟩ = some (.int .i64 0) ∧ w'.cell? ⟨w.heap.size, 0, none⟩ = some (.int .i64 x.f0) ∧ w'.cell? ⟨w.heap.size, 1, none⟩ = some (.string x.f1) ∧ w'.cell? ⟨w.heap.size, 2, none⟩ = some (.int .i64 x.f2) ∧ w'.cell? aq = some (.int .i64 t.tok.kind) ∧ w'.cell? ⟨aq.block, aq.off + 1, none⟩ = some (.string ⟨t.tok.text.toArray⟩) ∧ w'.cell? ⟨aq.block, aq.off + 2, none⟩ = some (.int .i64 t.tok.num) ∧ w'.cell? ⟨aq.block, aq.off + 3, none⟩ = some (.int .i64 (t.place : Int)) ∧ Aside0 (Below w.heap.size w w')) (φs := [Fact.eq ?vi0, Fact.eq ?vi1, Fact.eq ?vi2, Fact.eq ?vi3, Fact.eq ?vi4, Fact.eq ?vi5, Fact.eq ?vi6, Fact.eq ?vi7, Fact.eq ?vi8, Fact.eq ?vi9, Fact.eq ?vi10, Fact.eq ?vi11, Fact.eq ?vi12, Fact.eq ?vi13, Fact.eq ?vi14, Fact.eq ?vi15, Fact.eq ?vi16, Fact.eq ?vi17, Fact.eq ?vi18, Fact.eq ?vi19, Fact.eq ?vi20, Fact.eq ?vi21, Fact.eq ?vi22, Fact.eq ?vi23, Fact.eq ?vi24, Fact.eq ?vi25, Fact.eq ?vi26, Fact.eq ?vi27, Fact.eq ?vi28, Fact.eq ?vi29, Fact.eq ?vi30, Fact.eq ?vi31, Fact.eq ?vi32, Fact.eq ?vi33, Fact.eq ?vi34, Fact.eq ?vi35, Fact.eq ?vi36, Fact.eq ?vi37, Fact.eq ?vi38, Fact.eq ?vi39, Fact.eq ?vi40, Fact.eq ?vi41, Fact.eq ?vi42]) (n := 43) (m := 57) (by kernel_rfl) (by kernel_rfl) rfl rfl (by kernel_rfl) (fun _ _ _ h hb => ⟨pw_cell_below hb h.1, pw_cell_below hb h.2.1, pw_cell_below hb h.2.2.1, pw_cell_below hb h.2.2.2.1, pw_cell_below hb h.2.2.2.2.1, pw_cell_below hb h.2.2.2.2.2.1, pw_cell_below hb h.2.2.2.2.2.2.1, pw_cell_below hb h.2.2.2.2.2.2.2.1, ⟨below_then h.2.2.2.2.2.2.2.2.out h.2.2.2.2.2.2.2.2.out.size hb⟩⟩) (⟨y0, p0, p1, p2, a0, a1, a2, a3, ⟨below_drew HB3.out⟩⟩) ⟨?oi0, ?oi1, ?oi2, ?oi3, ?oi4, ?oi5, ?oi6, ?oi7, ?oi8, ?oi9, ?oi10, ?oi11, ?oi12, ?oi13, ?oi14, ?oi15, ?oi16, ?oi17, ?oi18, ?oi19, ?oi20, ?oi21, ?oi22, ?oi23, ?oi24, ?oi25, ?oi26, ?oi27, ?oi28, ?oi29, ?oi30, ?oi31, ?oi32, ?oi33, ?oi34, ?oi35, ?oi36, ?oi37, ?oi38, ?oi39, ?oi40, ?oi41, ?oi42, trivial⟩ ?fini
        case oi0 =>
          refine ask_val [.fix 5 _] rfl 15 rfl (.inl rfl) ⟨⟨by kernel_rfl, by conv => lhs; whnf⟩, trivial⟩ ?_
          dsimp only [Has, Fact.eq]
          intro e ρ w' hc hf hg hG h5
          go_simp
          with_reducible rfl
        case oi1 =>
          refine ask_val [.op 15 0 (Fact.eq _)] rfl 16 rfl (.inl rfl) ⟨⟨by kernel_rfl, rfl⟩, trivial⟩ ?_
          dsimp only [Has, Fact.eq]
          intro e ρ w' hc hf hg hG h15
          obtain ⟨s0, s1, s2, s3, s4, s5, s6, s7, s8⟩ := hG
          go_simp
          with_reducible rfl
        case oi2 =>
          refine ask_val [.op 16 1 (Fact.eq _)] rfl 17 rfl (.inl rfl) ⟨⟨by kernel_rfl, rfl⟩, trivial⟩ ?_
          dsimp only [Has, Fact.eq]
          intro e ρ w' hc hf hg hG h16
          go_simp
          with_reducible rfl
        case oi3 =>
          refine ask_val [.op 17 2 (Fact.eq _)] rfl 18 rfl (.inl rfl) ⟨⟨by kernel_rfl, rfl⟩, trivial⟩ ?_
          dsimp only [Has, Fact.eq]
          intro e ρ w' hc hf hg hG h17
          go_simp
          with_reducible rfl
        case oi4 =>
          refine ask_val [.fix 4 _] rfl 19 rfl (.inr ⟨3, true, rfl, by kernel_rfl, rfl⟩) ⟨⟨by kernel_rfl, by conv => lhs; whnf⟩, trivial⟩ ?_
          dsimp only [Has, Fact.eq]
          intro e ρ w' hc hf hg hG h4
          go_simp
          with_reducible rfl
        case oi5 =>
          refine ask_val [.op 19 4 (Fact.eq _)] rfl 20 rfl (.inr ⟨3, true, rfl, by kernel_rfl, rfl⟩) ⟨⟨by kernel_rfl, rfl⟩, trivial⟩ ?_
          dsimp only [Has, Fact.eq]
          intro e ρ w' hc hf hg hG h19
          go_simp
          with_reducible rfl
        case oi6 =>
          refine ask_val [.op 20 5 (Fact.eq _)] rfl 21 rfl (.inr ⟨3, true, rfl, by kernel_rfl, rfl⟩) ⟨⟨by kernel_rfl, rfl⟩, trivial⟩ ?_
          dsimp only [Has, Fact.eq]
          intro e ρ w' hc hf hg hG h20
          go_simp
          with_reducible rfl
        case oi7 =>
          refine ask_val [.op 18 3 (Fact.eq _), .op 21 6 (Fact.eq _)] rfl 22 rfl (.inl rfl) ⟨⟨by kernel_rfl, rfl⟩, ⟨by kernel_rfl, rfl⟩, trivial⟩ ?_
          dsimp only [Has, Fact.eq]
          intro e ρ w' hc hf hg hG h18 h21
          go_simp
          with_reducible rfl
        case oi8 =>
          refine ask_val [.op 22 7 (Fact.eq _)] rfl 23 rfl (.inl rfl) ⟨⟨by kernel_rfl, rfl⟩, trivial⟩ ?_
          dsimp only [Has, Fact.eq]
          intro e ρ w' hc hf hg hG h22
          go_simp
          with_reducible rfl
        case oi9 =>
          refine ask_val [.fix 4 _] rfl 24 rfl (.inr ⟨8, true, rfl, by kernel_rfl, rfl⟩) ⟨⟨by kernel_rfl, by conv => lhs; whnf⟩, trivial⟩ ?_
          dsimp only [Has, Fact.eq]
          intro e ρ w' hc hf hg hG h4
          go_simp
          with_reducible rfl
        case oi10 =>
          refine ask_val [.op 24 9 (Fact.eq _)] rfl 25 rfl (.inr ⟨8, true, rfl, by kernel_rfl, rfl⟩) ⟨⟨by kernel_rfl, rfl⟩, trivial⟩ ?_
          dsimp only [Has, Fact.eq]
          intro e ρ w' hc hf hg hG h24
          go_simp
          with_reducible rfl
        case oi11 =>
          refine ask_val [.op 25 10 (Fact.eq _)] rfl 26 rfl (.inr ⟨8, true, rfl, by kernel_rfl, rfl⟩) ⟨⟨by kernel_rfl, rfl⟩, trivial⟩ ?_
          dsimp only [Has, Fact.eq]
          intro e ρ w' hc hf hg hG h25
          go_simp
          with_reducible rfl
        case oi12 =>
          refine ask_val [.op 26 11 (Fact.eq _)] rfl 27 rfl (.inr ⟨8, true, rfl, by kernel_rfl, rfl⟩) ⟨⟨by kernel_rfl, rfl⟩, trivial⟩ ?_
          dsimp only [Has, Fact.eq]
          intro e ρ w' hc hf hg hG h26
          obtain ⟨s0, s1, s2, s3, s4, s5, s6, s7, s8⟩ := hG
          go_simp
          with_reducible rfl
        case oi13 =>
          refine ask_val [.fix 1 _] rfl 28 rfl (.inr ⟨8, true, rfl, by kernel_rfl, rfl⟩) ⟨⟨by kernel_rfl, by conv => lhs; whnf⟩, trivial⟩ ?_
          dsimp only [Has, Fact.eq]
          intro e ρ w' hc hf hg hG h1
          go_simp
          with_reducible rfl
        case oi14 =>
          refine ask_val [.op 28 13 (Fact.eq _)] rfl 29 rfl (.inr ⟨8, true, rfl, by kernel_rfl, rfl⟩) ⟨⟨by kernel_rfl, rfl⟩, trivial⟩ ?_
          dsimp only [Has, Fact.eq]
          intro e ρ w' hc hf hg hG h28
          obtain ⟨s0, s1, s2, s3, s4, s5, s6, s7, s8⟩ := hG
          go_simp
          with_reducible rfl
        case oi15 =>
          refine ask_val [.op 27 12 (Fact.eq _), .op 29 14 (Fact.eq _)] rfl 30 rfl (.inr ⟨8, true, rfl, by kernel_rfl, rfl⟩) ⟨⟨by kernel_rfl, rfl⟩, ⟨by kernel_rfl, rfl⟩, trivial⟩ ?_
          dsimp only [Has, Fact.eq]
          intro e ρ w' hc hf hg hG h27 h29
          go_simp
          with_reducible rfl
        case oi16 =>
          refine ask_val [.op 23 8 (Fact.eq _), .op 30 15 (Fact.eq _)] rfl 31 rfl (.inl rfl) ⟨⟨by kernel_rfl, rfl⟩, ⟨by kernel_rfl, rfl⟩, trivial⟩ ?_
          dsimp only [Has, Fact.eq]
          intro e ρ w' hc hf hg hG h23 h30
          go_simp
          with_reducible rfl
        case oi17 =>
          refine ask_val [.op 31 16 (Fact.eq _)] rfl 32 rfl (.inl rfl) ⟨⟨by kernel_rfl, rfl⟩, trivial⟩ ?_
          dsimp only [Has, Fact.eq]
          intro e ρ w' hc hf hg hG h31
          go_simp
          with_reducible rfl
        case oi18 =>
          refine ask_val [.fix 4 _] rfl 33 rfl (.inr ⟨17, true, rfl, by kernel_rfl, rfl⟩) ⟨⟨by kernel_rfl, by conv => lhs; whnf⟩, trivial⟩ ?_
          dsimp only [Has, Fact.eq]
          intro e ρ w' hc hf hg hG h4
          go_simp
          with_reducible rfl
        case oi19 =>
          refine ask_val [.op 33 18 (Fact.eq _)] rfl 34 rfl (.inr ⟨17, true, rfl, by kernel_rfl, rfl⟩) ⟨⟨by kernel_rfl, rfl⟩, trivial⟩ ?_
          dsimp only [Has, Fact.eq]
          intro e ρ w' hc hf hg hG h33
          go_simp
          with_reducible rfl
        case oi20 =>
          refine ask_val [.op 34 19 (Fact.eq _)] rfl 35 rfl (.inr ⟨17, true, rfl, by kernel_rfl, rfl⟩) ⟨⟨by kernel_rfl, rfl⟩, trivial⟩ ?_
          dsimp only [Has, Fact.eq]
          intro e ρ w' hc hf hg hG h34
          go_simp
          with_reducible rfl
        case oi21 =>
          refine ask_val [.op 35 20 (Fact.eq _)] rfl 36 rfl (.inr ⟨17, true, rfl, by kernel_rfl, rfl⟩) ⟨⟨by kernel_rfl, rfl⟩, trivial⟩ ?_
          dsimp only [Has, Fact.eq]
          intro e ρ w' hc hf hg hG h35
          obtain ⟨s0, s1, s2, s3, s4, s5, s6, s7, s8⟩ := hG
          go_simp
          with_reducible rfl
        case oi22 =>
          refine ask_val [.fix 1 _] rfl 37 rfl (.inr ⟨17, true, rfl, by kernel_rfl, rfl⟩) ⟨⟨by kernel_rfl, by conv => lhs; whnf⟩, trivial⟩ ?_
          dsimp only [Has, Fact.eq]
          intro e ρ w' hc hf hg hG h1
          go_simp
          with_reducible rfl
        case oi23 =>
          refine ask_val [.op 37 22 (Fact.eq _)] rfl 38 rfl (.inr ⟨17, true, rfl, by kernel_rfl, rfl⟩) ⟨⟨by kernel_rfl, rfl⟩, trivial⟩ ?_
          dsimp only [Has, Fact.eq]
          intro e ρ w' hc hf hg hG h37
          obtain ⟨s0, s1, s2, s3, s4, s5, s6, s7, s8⟩ := hG
          go_simp
          with_reducible rfl
        case oi24 =>
          refine ask_val [.op 36 21 (Fact.eq _), .op 38 23 (Fact.eq _)] rfl 39 rfl (.inr ⟨17, true, rfl, by kernel_rfl, rfl⟩) ⟨⟨by kernel_rfl, rfl⟩, ⟨by kernel_rfl, rfl⟩, trivial⟩ ?_
          dsimp only [Has, Fact.eq]
          intro e ρ w' hc hf hg hG h36 h38
          go_simp
          with_reducible rfl
        case oi25 =>
          refine ask_val [.op 32 17 (Fact.eq _), .op 39 24 (Fact.eq _)] rfl 40 rfl (.inl rfl) ⟨⟨by kernel_rfl, rfl⟩, ⟨by kernel_rfl, rfl⟩, trivial⟩ ?_
          dsimp only [Has, Fact.eq]
          intro e ρ w' hc hf hg hG h32 h39
          go_simp
          with_reducible rfl
        case oi26 =>
          refine ask_val [.op 40 25 (Fact.eq _)] rfl 41 rfl (.inl rfl) ⟨⟨by kernel_rfl, rfl⟩, trivial⟩ ?_
          dsimp only [Has, Fact.eq]
          intro e ρ w' hc hf hg hG h40
          go_simp
          with_reducible rfl
        case oi27 =>
          refine ask_val [.fix 4 _] rfl 42 rfl (.inr ⟨26, true, rfl, by kernel_rfl, rfl⟩) ⟨⟨by kernel_rfl, by conv => lhs; whnf⟩, trivial⟩ ?_
          dsimp only [Has, Fact.eq]
          intro e ρ w' hc hf hg hG h4
          go_simp
          with_reducible rfl
        case oi28 =>
          refine ask_val [.op 42 27 (Fact.eq _)] rfl 43 rfl (.inr ⟨26, true, rfl, by kernel_rfl, rfl⟩) ⟨⟨by kernel_rfl, rfl⟩, trivial⟩ ?_
          dsimp only [Has, Fact.eq]
          intro e ρ w' hc hf hg hG h42
          go_simp
          with_reducible rfl
        case oi29 =>
          refine ask_val [.op 43 28 (Fact.eq _)] rfl 44 rfl (.inr ⟨26, true, rfl, by kernel_rfl, rfl⟩) ⟨⟨by kernel_rfl, rfl⟩, trivial⟩ ?_
          dsimp only [Has, Fact.eq]
          intro e ρ w' hc hf hg hG h43
          go_simp
          with_reducible rfl
        case oi30 =>
          refine ask_val [.op 44 29 (Fact.eq _)] rfl 45 rfl (.inr ⟨26, true, rfl, by kernel_rfl, rfl⟩) ⟨⟨by kernel_rfl, rfl⟩, trivial⟩ ?_
          dsimp only [Has, Fact.eq]
          intro e ρ w' hc hf hg hG h44
          obtain ⟨s0, s1, s2, s3, s4, s5, s6, s7, s8⟩ := hG
          go_simp
          with_reducible rfl
        case oi31 =>
          refine ask_val [.fix 1 _] rfl 46 rfl (.inr ⟨26, true, rfl, by kernel_rfl, rfl⟩) ⟨⟨by kernel_rfl, by conv => lhs; whnf⟩, trivial⟩ ?_
          dsimp only [Has, Fact.eq]
          intro e ρ w' hc hf hg hG h1
          go_simp
          with_reducible rfl
        case oi32 =>
          refine ask_val [.op 46 31 (Fact.eq _)] rfl 47 rfl (.inr ⟨26, true, rfl, by kernel_rfl, rfl⟩) ⟨⟨by kernel_rfl, rfl⟩, trivial⟩ ?_
          dsimp only [Has, Fact.eq]
          intro e ρ w' hc hf hg hG h46
          obtain ⟨s0, s1, s2, s3, s4, s5, s6, s7, s8⟩ := hG
          go_simp
          with_reducible rfl
        case oi33 =>
          refine ask_val [.op 45 30 (Fact.eq _), .op 47 32 (Fact.eq _)] rfl 48 rfl (.inr ⟨26, true, rfl, by kernel_rfl, rfl⟩) ⟨⟨by kernel_rfl, rfl⟩, ⟨by kernel_rfl, rfl⟩, trivial⟩ ?_
          dsimp only [Has, Fact.eq]
          intro e ρ w' hc hf hg hG h45 h47
          go_simp
          with_reducible rfl
        case oi34 =>
          refine ask_val [.op 41 26 (Fact.eq _), .op 48 33 (Fact.eq _)] rfl 49 rfl (.inl rfl) ⟨⟨by kernel_rfl, rfl⟩, ⟨by kernel_rfl, rfl⟩, trivial⟩ ?_
          dsimp only [Has, Fact.eq]
          intro e ρ w' hc hf hg hG h41 h48
          go_simp
          with_reducible rfl
        case oi35 =>
          refine ask_val [.op 49 34 (Fact.eq _)] rfl 50 rfl (.inl rfl) ⟨⟨by kernel_rfl, rfl⟩, trivial⟩ ?_
          dsimp only [Has, Fact.eq]
          intro e ρ w' hc hf hg hG h49
          go_simp
          with_reducible rfl
        case oi36 =>
          refine ask_val [.fix 4 _] rfl 51 rfl (.inr ⟨35, true, rfl, by kernel_rfl, rfl⟩) ⟨⟨by kernel_rfl, by conv => lhs; whnf⟩, trivial⟩ ?_
          dsimp only [Has, Fact.eq]
          intro e ρ w' hc hf hg hG h4
          go_simp
          with_reducible rfl
        case oi37 =>
          refine ask_val [.op 51 36 (Fact.eq _)] rfl 52 rfl (.inr ⟨35, true, rfl, by kernel_rfl, rfl⟩) ⟨⟨by kernel_rfl, rfl⟩, trivial⟩ ?_
          dsimp only [Has, Fact.eq]
          intro e ρ w' hc hf hg hG h51
          go_simp
          with_reducible rfl
        case oi38 =>
          refine ask_val [.op 52 37 (Fact.eq _)] rfl 53 rfl (.inr ⟨35, true, rfl, by kernel_rfl, rfl⟩) ⟨⟨by kernel_rfl, rfl⟩, trivial⟩ ?_
          dsimp only [Has, Fact.eq]
          intro e ρ w' hc hf hg hG h52
          go_simp
          with_reducible rfl
        case oi39 =>
          refine ask_val [.op 53 38 (Fact.eq _)] rfl 54 rfl (.inr ⟨35, true, rfl, by kernel_rfl, rfl⟩) ⟨⟨by kernel_rfl, rfl⟩, trivial⟩ ?_
          dsimp only [Has, Fact.eq]
          intro e ρ w' hc hf hg hG h53
          obtain ⟨s0, s1, s2, s3, s4, s5, s6, s7, s8⟩ := hG
          go_simp
          with_reducible rfl
        case oi40 =>
          refine ask_val [.op 54 39 (Fact.eq _)] rfl 55 rfl (.inr ⟨35, true, rfl, by kernel_rfl, rfl⟩) ⟨⟨by kernel_rfl, rfl⟩, trivial⟩ ?_
          dsimp only [Has, Fact.eq]
          intro e ρ w' hc hf hg hG h54
          go_simp
          with_reducible rfl
        case oi41 =>
          refine ask_val [.op 50 35 (Fact.eq _), .op 55 40 (Fact.eq _)] rfl 56 rfl (.inl rfl) ⟨⟨by kernel_rfl, rfl⟩, ⟨by kernel_rfl, rfl⟩, trivial⟩ ?_
          dsimp only [Has, Fact.eq]
          intro e ρ w' hc hf hg hG h50 h55
          go_simp
          with_reducible rfl
        case oi42 =>
          refine ask_val [.op 56 41 (Fact.eq _)] rfl 2 rfl (.inl rfl) ⟨⟨by kernel_rfl, rfl⟩, trivial⟩ ?_
          dsimp only [Has, Fact.eq]
          intro e ρ w' hc hf hg hG h56
          go_simp
          with_reducible rfl
        case fini =>
          intro w' hG
          refine fin_eq (fin_eq (fin_eq (fin_eq (fin_eq (fin_eq (fin_eq (fin_eq (fin_eq (fin_eq (fin_eq (fin_eq (fin_eq (fin_eq (fin_eq (fin_eq (fin_eq (fin_eq (fin_eq (fin_eq (fin_eq (fin_eq (fin_eq (fin_eq (fin_eq (fin_eq (fin_eq (fin_eq (fin_eq (fin_eq (fin_eq (fin_eq (fin_eq (fin_eq (fin_eq (fin_eq (fin_eq (fin_eq (fin_eq (fin_eq (fin_eq (fin_eq (fin_eq (fin_nil (a' := ?_) ?_ ?_)))))))))))))))))))))))))))))))))))))))))))
          rotate_left
          · simp only [Act.put, List.setIfInBounds_toArray, List.set_cons_zero, List.set_cons_succ]
            rfl
          go_wp2_with fail
          go_ret
          refine ⟨?_, hG.2.2.2.2.2.2.2.2.out⟩
          rw [HM.out]
          rfl
      · have HM : Aside0 (may (tk x) = false) := ⟨by
          unfold may; rw [← bl_spB, hl]
          match l, hl2 with
          | [], _ => rfl
          | [_], _ => rfl
          | _ :: _ :: _ :: _, _ => rfl
          | [_, _], h => exact absurd rfl h⟩
        have hl2b : ((l.length : Int) == 2) = false := by rw [beq_eq_false_iff_ne]; omega
        refine (all_list hl HS.out _).mono ?_
        rintro e w2 ⟨A2, c2, rfl, hb2⟩
        have HB2 := Aside0.mk (below_then HB1.out HB1.out.size hb2)
        have HP2 := Aside0.mk (blk_below HP1.out hb2)
        go_wp2_with fail
        obtain ⟨q, hq⟩ : ∃ q, q = w2.heap.size := ⟨_, rfl⟩
        obtain ⟨W3, hW3⟩ : ∃ W3, W3 = w2.alloc (Obj.cells #[Value.int IntKind.i64 0, Value.int IntKind.i64 0] 38) := ⟨_, rfl⟩
        have hW23 : Below w2.heap.size w2 W3 := by rw [hW3]; exact (Below.refl _ _).alloc (Nat.le_refl _) _
        have HB3 : Aside0 (Below w.heap.size w W3) := ⟨below_then HB2.out HB2.out.size hW23⟩
        have hqq : W3.heap[q]? = some (.cells #[.int .i64 0, .int .i64 0] 38 (0, 0)) := by rw [hW3, hq]; exact blk_new _ _
        have y0 : W3.cell? ⟨q, 0, none⟩ = some (.int .i64 0) := blk_cell hqq 0
        have hpp := blk_below HP2.out hW23
        have p0 : W3.cell? ⟨w.heap.size, 0, none⟩ = some (.int .i64 x.f0) := blk_cell hpp 0
        have p1 : W3.cell? ⟨w.heap.size, 1, none⟩ = some (.string x.f1) := blk_cell hpp 1
        have p2 : W3.cell? ⟨w.heap.size, 2, none⟩ = some (.int .i64 x.f2) := blk_cell hpp 2
        rw [← hq, ← hW3]
        clear hW3 hq hqq hpp hW23 hb2
        refine region_facts (ws := []) (G := fun _ w' => w'.cell? ⟨q, 0, none⟩ = some (.int .i64 0) ∧ Aside0 (Below w.heap.size w w')) (φs := [Fact.eq ?vb0, Fact.eq ?vb1, Fact.eq ?vb2, Fact.eq ?vb3, Fact.eq ?vb4, Fact.eq ?vb5, Fact.eq (.bool false), Fact.eq ?vb7, Fact.eq ?vb8, Fact.eq undef, Fact.eq undef, Fact.eq undef, Fact.eq undef, Fact.eq undef, Fact.eq undef, Fact.eq undef, Fact.eq ?vb16, Fact.eq ?vb17, Fact.eq undef, Fact.eq undef, Fact.eq undef, Fact.eq undef, Fact.eq undef, Fact.eq undef, Fact.eq undef, Fact.eq ?vb25, Fact.eq ?vb26, Fact.eq undef, Fact.eq undef, Fact.eq undef, Fact.eq undef, Fact.eq undef, Fact.eq undef, Fact.eq undef, Fact.eq ?vb34, Fact.eq ?vb35, Fact.eq undef, Fact.eq undef, Fact.eq undef, Fact.eq undef, Fact.eq undef, Fact.eq ?vb41, Fact.eq ?vb42]) (n := 43) (m := 57) (by kernel_rfl) (by kernel_rfl) rfl rfl (by kernel_rfl) (fun _ _ _ h hb => ⟨pw_cell_below hb h.1, ⟨below_then h.2.out h.2.out.size hb⟩⟩) (⟨y0, ⟨below_drew HB3.out⟩⟩) ⟨?ob0, ?ob1, ?ob2, ?ob3, ?ob4, ?ob5, ?ob6, ?ob7, ?ob8, ?ob9, ?ob10, ?ob11, ?ob12, ?ob13, ?ob14, ?ob15, ?ob16, ?ob17, ?ob18, ?ob19, ?ob20, ?ob21, ?ob22, ?ob23, ?ob24, ?ob25, ?ob26, ?ob27, ?ob28, ?ob29, ?ob30, ?ob31, ?ob32, ?ob33, ?ob34, ?ob35, ?ob36, ?ob37, ?ob38, ?ob39, ?ob40, ?ob41, ?ob42, trivial⟩ ?finb
        case ob0 =>
          refine ask_val [.fix 5 _] rfl 15 rfl (.inl rfl) ⟨⟨by kernel_rfl, by conv => lhs; whnf⟩, trivial⟩ ?_
          dsimp only [Has, Fact.eq]
          intro e ρ w' hc hf hg hG h5
          go_simp
          with_reducible rfl
        case ob1 =>
          refine ask_val [.op 15 0 (Fact.eq _)] rfl 16 rfl (.inl rfl) ⟨⟨by kernel_rfl, rfl⟩, trivial⟩ ?_
          dsimp only [Has, Fact.eq]
          intro e ρ w' hc hf hg hG h15
          obtain ⟨s0, s1⟩ := hG
          go_simp
          with_reducible rfl
        case ob2 =>
          refine ask_val [.op 16 1 (Fact.eq _)] rfl 17 rfl (.inl rfl) ⟨⟨by kernel_rfl, rfl⟩, trivial⟩ ?_
          dsimp only [Has, Fact.eq]
          intro e ρ w' hc hf hg hG h16
          go_simp
          with_reducible rfl
        case ob3 =>
          refine ask_val [.op 17 2 (Fact.eq _)] rfl 18 rfl (.inl rfl) ⟨⟨by kernel_rfl, rfl⟩, trivial⟩ ?_
          dsimp only [Has, Fact.eq]
          intro e ρ w' hc hf hg hG h17
          go_simp
          with_reducible rfl
        case ob4 =>
          refine ask_val [.fix 4 _] rfl 19 rfl (.inr ⟨3, true, rfl, by kernel_rfl, rfl⟩) ⟨⟨by kernel_rfl, by conv => lhs; whnf⟩, trivial⟩ ?_
          dsimp only [Has, Fact.eq]
          intro e ρ w' hc hf hg hG h4
          go_simp
          with_reducible rfl
        case ob5 =>
          refine ask_val [.op 19 4 (Fact.eq _)] rfl 20 rfl (.inr ⟨3, true, rfl, by kernel_rfl, rfl⟩) ⟨⟨by kernel_rfl, rfl⟩, trivial⟩ ?_
          dsimp only [Has, Fact.eq]
          intro e ρ w' hc hf hg hG h19
          go_simp
          with_reducible rfl
        case ob6 =>
          refine ask_val [.op 20 5 (Fact.eq _)] rfl 21 rfl (.inr ⟨3, true, rfl, by kernel_rfl, rfl⟩) ⟨⟨by kernel_rfl, rfl⟩, trivial⟩ ?_
          dsimp only [Has, Fact.eq]
          intro e ρ w' hc hf hg hG h20
          go_simp
          first | done | rfl
        case ob7 =>
          refine ask_val [.op 18 3 (Fact.eq _), .op 21 6 (Fact.eq _)] rfl 22 rfl (.inl rfl) ⟨⟨by kernel_rfl, rfl⟩, ⟨by kernel_rfl, rfl⟩, trivial⟩ ?_
          dsimp only [Has, Fact.eq]
          intro e ρ w' hc hf hg hG h18 h21
          go_simp
          with_reducible rfl
        case ob8 =>
          refine ask_val [.op 22 7 (Fact.eq _)] rfl 23 rfl (.inl rfl) ⟨⟨by kernel_rfl, rfl⟩, trivial⟩ ?_
          dsimp only [Has, Fact.eq]
          intro e ρ w' hc hf hg hG h22
          go_simp
          with_reducible rfl
        case ob9 =>
          exact ask_off rfl ⟨8, false, rfl, by kernel_rfl, rfl⟩
        case ob10 =>
          exact ask_off rfl ⟨8, false, rfl, by kernel_rfl, rfl⟩
        case ob11 =>
          exact ask_off rfl ⟨8, false, rfl, by kernel_rfl, rfl⟩
        case ob12 =>
          exact ask_off rfl ⟨8, false, rfl, by kernel_rfl, rfl⟩
        case ob13 =>
          exact ask_off rfl ⟨8, false, rfl, by kernel_rfl, rfl⟩
        case ob14 =>
          exact ask_off rfl ⟨8, false, rfl, by kernel_rfl, rfl⟩
        case ob15 =>
          exact ask_off rfl ⟨8, false, rfl, by kernel_rfl, rfl⟩
        case ob16 =>
          refine ask_val [.op 23 8 (Fact.eq _), .op 30 15 (Fact.eq _)] rfl 31 rfl (.inl rfl) ⟨⟨by kernel_rfl, rfl⟩, ⟨by kernel_rfl, rfl⟩, trivial⟩ ?_
          dsimp only [Has, Fact.eq]
          intro e ρ w' hc hf hg hG h23 h30
          go_simp
          with_reducible rfl
        case ob17 =>
          refine ask_val [.op 31 16 (Fact.eq _)] rfl 32 rfl (.inl rfl) ⟨⟨by kernel_rfl, rfl⟩, trivial⟩ ?_
          dsimp only [Has, Fact.eq]
          intro e ρ w' hc hf hg hG h31
          go_simp
          with_reducible rfl
        case ob18 =>
          exact ask_off rfl ⟨17, false, rfl, by kernel_rfl, rfl⟩
        case ob19 =>
          exact ask_off rfl ⟨17, false, rfl, by kernel_rfl, rfl⟩
        case ob20 =>
          exact ask_off rfl ⟨17, false, rfl, by kernel_rfl, rfl⟩
        case ob21 =>
          exact ask_off rfl ⟨17, false, rfl, by kernel_rfl, rfl⟩
        case ob22 =>
          exact ask_off rfl ⟨17, false, rfl, by kernel_rfl, rfl⟩
        case ob23 =>
          exact ask_off rfl ⟨17, false, rfl, by kernel_rfl, rfl⟩
        case ob24 =>
          exact ask_off rfl ⟨17, false, rfl, by kernel_rfl, rfl⟩
        case ob25 =>
          refine ask_val [.op 32 17 (Fact.eq _), .op 39 24 (Fact.eq _)] rfl 40 rfl (.inl rfl) ⟨⟨by kernel_rfl, rfl⟩, ⟨by kernel_rfl, rfl⟩, trivial⟩ ?_
          dsimp only [Has, Fact.eq]
          intro e ρ w' hc hf hg hG h32 h39
          go_simp
          with_reducible rfl
        case ob26 =>
          refine ask_val [.op 40 25 (Fact.eq _)] rfl 41 rfl (.inl rfl) ⟨⟨by kernel_rfl, rfl⟩, trivial⟩ ?_
          dsimp only [Has, Fact.eq]
          intro e ρ w' hc hf hg hG h40
          go_simp
          with_reducible rfl
        case ob27 =>
          exact ask_off rfl ⟨26, false, rfl, by kernel_rfl, rfl⟩
        case ob28 =>
          exact ask_off rfl ⟨26, false, rfl, by kernel_rfl, rfl⟩
        case ob29 =>
          exact ask_off rfl ⟨26, false, rfl, by kernel_rfl, rfl⟩
        case ob30 =>
          exact ask_off rfl ⟨26, false, rfl, by kernel_rfl, rfl⟩
        case ob31 =>
          exact ask_off rfl ⟨26, false, rfl, by kernel_rfl, rfl⟩
        case ob32 =>
          exact ask_off rfl ⟨26, false, rfl, by kernel_rfl, rfl⟩
        case ob33 =>
          exact ask_off rfl ⟨26, false, rfl, by kernel_rfl, rfl⟩
        case ob34 =>
          refine ask_val [.op 41 26 (Fact.eq _), .op 48 33 (Fact.eq _)] rfl 49 rfl (.inl rfl) ⟨⟨by kernel_rfl, rfl⟩, ⟨by kernel_rfl, rfl⟩, trivial⟩ ?_
          dsimp only [Has, Fact.eq]
          intro e ρ w' hc hf hg hG h41 h48
          go_simp
          with_reducible rfl
        case ob35 =>
          refine ask_val [.op 49 34 (Fact.eq _)] rfl 50 rfl (.inl rfl) ⟨⟨by kernel_rfl, rfl⟩, trivial⟩ ?_
          dsimp only [Has, Fact.eq]
          intro e ρ w' hc hf hg hG h49
          go_simp
          with_reducible rfl
        case ob36 =>
          exact ask_off rfl ⟨35, false, rfl, by kernel_rfl, rfl⟩
        case ob37 =>
          exact ask_off rfl ⟨35, false, rfl, by kernel_rfl, rfl⟩
        case ob38 =>
          exact ask_off rfl ⟨35, false, rfl, by kernel_rfl, rfl⟩
        case ob39 =>
          exact ask_off rfl ⟨35, false, rfl, by kernel_rfl, rfl⟩
        case ob40 =>
          exact ask_off rfl ⟨35, false, rfl, by kernel_rfl, rfl⟩
        case ob41 =>
          refine ask_val [.op 50 35 (Fact.eq _), .op 55 40 (Fact.eq _)] rfl 56 rfl (.inl rfl) ⟨⟨by kernel_rfl, rfl⟩, ⟨by kernel_rfl, rfl⟩, trivial⟩ ?_
          dsimp only [Has, Fact.eq]
          intro e ρ w' hc hf hg hG h50 h55
          go_simp
          with_reducible rfl
        case ob42 =>
          refine ask_val [.op 56 41 (Fact.eq _)] rfl 2 rfl (.inl rfl) ⟨⟨by kernel_rfl, rfl⟩, trivial⟩ ?_
          dsimp only [Has, Fact.eq]
          intro e ρ w' hc hf hg hG h56
          go_simp
          with_reducible rfl
        case finb =>
          intro w' hG
          refine fin_eq (fin_eq (fin_eq (fin_eq (fin_eq (fin_eq (fin_eq (fin_eq (fin_eq (fin_eq (fin_eq (fin_eq (fin_eq (fin_eq (fin_eq (fin_eq (fin_eq (fin_eq (fin_eq (fin_eq (fin_eq (fin_eq (fin_eq (fin_eq (fin_eq (fin_eq (fin_eq (fin_eq (fin_eq (fin_eq (fin_eq (fin_eq (fin_eq (fin_eq (fin_eq (fin_eq (fin_eq (fin_eq (fin_eq (fin_eq (fin_eq (fin_eq (fin_eq (fin_nil (a' := ?_) ?_ ?_)))))))))))))))))))))))))))))))))))))))))))
          rotate_left
          · simp only [Act.put, List.setIfInBounds_toArray, List.set_cons_zero, List.set_cons_succ]
            rfl
          go_wp2_with fail
          go_ret
          refine ⟨?_, hG.2.out⟩
          rw [HM.out]
          rfl
end Go.Proofs.YtjibdaigclgmhaaGreatDoor.LexW
