/- script.PrintAct, walked. kilnref24.line: its letters in plain words; a buffer of bytes that grows. kilnref24.line, walked. Conditions: those that each theorem states. -/
import Derived.Test.YtkfjjmmpbfjhaaaGreatDoorScrL
import Derived.Laws.EntriesVeiled
namespace Go.Proofs.YtkfjjmmpbfjhaaaGreatDoor.Tells
open Go.RowKit Go.Proofs.YtkfjjmmpbfjhaaaGreatDoor.Facts Go.Proofs.YtkfjjmmpbfjhaaaGreatDoor.PScriptActs Go.Proofs.YtkfjjmmpbfjhaaaGreatDoorW.PrintWords Go.Proofs.YtkfjjmmpbfjhaaaGreatDoorW.PrintLast Go.Proofs.YtkfjjmmpbfjhaaaGreatDoorW.PrintMore
attribute [local go_sem] max2_int min2_int max_two min_two max_three min_three max_four min_four
set_option linter.unusedVariables false
set_option linter.unusedSimpArgs false
/-- the act's box and the table, as the loop finds them -/
structure Tab (w : World) (a : S31) (A : Option Addr) (c : Nat) (wr : World) : Prop where
  below : Below w.heap.size w wr
  box : wr.heap[w.heap.size]? = some (.cells #[.int .i64 a.f0, .string a.f1, .string a.f2, .slice A a.f3.length c, .string a.f4, .int .i64 a.f5, .int .i64 a.f6] 31 (0, 0))
  tab : wr.heap[w.heap.size + 1]? = some (.cells tabCells 68 (0, 0))
theorem Tab.next {w : World} {a : S31} {A : Option Addr} {c : Nat} {wr w2 : World} (h : Tab w a A c wr) (hb : Below wr.heap.size wr w2) : Tab w a A c w2 :=
  ⟨below_then h.below h.below.size hb, (hb.block _ (blk_lt h.box)).trans h.box, (hb.block _ (blk_lt h.tab)).trans h.tab⟩
theorem below_le {B B' : Nat} {w w' : World} (h : Below B w w') (hB : B' ≤ B) : Below B' w w' := ⟨h.os, h.tape, h.output, h.size, fun i hi => h.block i (Nat.lt_of_lt_of_le hi hB)⟩
theorem ActIs.below {w w' : World} {cs : Array Value} {b : S31} (h : ActIs w cs b) (hb : Below w.heap.size w w') : ActIs w' cs b := by
  obtain ⟨A, c, h1, h2, h3⟩ := h
  exact ⟨A, c, h1, Kd.C_below h2 hb, h3⟩
theorem word_size (s : ByteArray) (h : s.size ≤ 1048576) : (wordB s).size ≤ 1073741824 := by
  have h1 := word_len s
  have h2 : (wordB s).data.toList.length = (wordB s).size := bl_len _
  omega
theorem num_size (n : Int) (h : inI n) : (itoaB n).size ≤ 1073741824 := by
  have h1 := num_len n h
  have h2 : (itoaB n).data.toList.length = (itoaB n).size := bl_len _
  omega
theorem behind_sizes (a : S31) (ha : Aok a) : ∀ s ∈ behind a, s.size ≤ 1073741824 := by
  have k1 := word_size _ ha.name
  have k2 := word_size _ ha.other
  have k4 := word_size _ ha.text
  have k5 := num_size _ ha.number
  have k6 := num_size _ ha.fuel
  have k3 : ∀ s ∈ a.f3.map wordB, s.size ≤ 1073741824 := fun s hs => by
    obtain ⟨x, hx, rfl⟩ := List.mem_map.1 hs
    exact word_size _ (ha.names x hx)
  unfold behind
  repeat' split
  all_goals intro s hs
  all_goals simp only [List.mem_cons, List.not_mem_nil, or_false] at hs
  · rcases hs with rfl | rfl | hs
    · exact k1
    · exact k2
    · exact k3 s hs
  · rcases hs with rfl | rfl
    · exact k1
    · exact k4
  · rcases hs with rfl | rfl
    · exact k1
    · exact k2
  · subst hs; exact k1
  · subst hs; exact k4
  · rcases hs with rfl | rfl
    · exact k5
    · exact k6
  · rcases hs with rfl | hs
    · exact k1
    · exact k3 s hs
  · subst hs; exact k5
  · subst hs; exact k4
theorem Tab.keep {w : World} {a : S31} {A : Option Addr} {c B : Nat} {wr w2 : World} (h : Tab w a A c wr) (hb : Below B wr w2) (hB : w.heap.size + 2 ≤ B) : Tab w a A c w2 :=
  ⟨h.below.trans ⟨hb.os, hb.tape, hb.output, hb.size, fun k hk => hb.block k (by omega)⟩, (hb.block _ (by omega)).trans h.box, (hb.block _ (by omega)).trans h.tab⟩
theorem behind_len (a : S31) (ha : Aok a) : (behind a).length ≤ 1048578 := by
  have := ha.count
  unfold behind
  repeat' split
  all_goals simp
  all_goals omega
theorem tab_at (i : Nat) (hi : i < 12) : tabCells[i * 4]? = some (.string (nameL.getD i ⟨#[]⟩)) ∧ tabCells[i * 4 + 1]? = some (.int .i64 ((i : Int) + 1)) := by
  rcases (show i = 0 ∨ i = 1 ∨ i = 2 ∨ i = 3 ∨ i = 4 ∨ i = 5 ∨ i = 6 ∨ i = 7 ∨ i = 8 ∨ i = 9 ∨ i = 10 ∨ i = 11 by omega) with rfl | rfl | rfl | rfl | rfl | rfl | rfl | rfl | rfl | rfl | rfl | rfl <;> exact ⟨rfl, rfl⟩
theorem tab_fn (i : Nat) (hi : i < 12) : ∃ fr fw, tabCells[i * 4 + 2]? = some (.func (.func fr) #[] #[]) ∧ tabCells[i * 4 + 3]? = some (.func (.func fw) #[] #[]) := by
  rcases (show i = 0 ∨ i = 1 ∨ i = 2 ∨ i = 3 ∨ i = 4 ∨ i = 5 ∨ i = 6 ∨ i = 7 ∨ i = 8 ∨ i = 9 ∨ i = 10 ∨ i = 11 by omega) with rfl | rfl | rfl | rfl | rfl | rfl | rfl | rfl | rfl | rfl | rfl | rfl <;> exact ⟨_, _, rfl, rfl⟩
set_option maxHeartbeats 4000000 in
set_option maxRecDepth 100000 in
theorem printAct_calls (a : S31) (ha : Aok a) (A : Option Addr) (c : Nat) (w : World) (E : Env w) (hC : Kd.C Kd.string w A a.f3.length a.f3) (hc : a.f3.length ≤ c) (o : Value) (ho : Aside0 (o = .tuple #[.string (printA a).1, .int .i64 (printA a).2])) : Calls Tryz.prog 11 #[.agg #[.int .i64 a.f0, .string a.f1, .string a.f2, .slice A a.f3.length c, .string a.f4, .int .i64 a.f5, .int .i64 a.f6]] w fun e w' => e = .returned o ∧ Below w.heap.size w w' := by
  have HA := Aside0.mk ha
  have HE := Aside0.mk E
  have HC := Aside0.mk (And.intro hC hc)
  have hcnt := ha.count
  have HBL := Aside0.mk (behind_len a ha)
  clear ha E hC hc
  go_enter Tryz.func11, Tryz.ntmps11
  have HT0 : Aside0 (∀ W, W = (w.alloc (.cells #[.int .i64 a.f0, .string a.f1, .string a.f2, .slice A a.f3.length c, .string a.f4, .int .i64 a.f5, .int .i64 a.f6] 31 (0, 0))) → Tab w a A c (W.alloc (.cells tabCells 68 (0, 0)))) := ⟨fun W hW => by
    have hs : W.heap.size = w.heap.size + 1 := by rw [hW]; simp
    have hb : Below w.heap.size w W := by rw [hW]; exact below_alloc (Below.refl _ _) _
    have h1 : W.heap[w.heap.size]? = some (.cells #[.int .i64 a.f0, .string a.f1, .string a.f2, .slice A a.f3.length c, .string a.f4, .int .i64 a.f5, .int .i64 a.f6] 31 (0, 0)) := by rw [hW]; exact blk_new w _
    refine ⟨below_alloc hb _, ((Below.refl W.heap.size W).alloc (Nat.le_refl _) _).block _ (blk_lt h1) |>.trans h1, ?_⟩
    have := blk_new W (.cells tabCells 68 (0, 0))
    rw [hs] at this; exact this⟩
  go_wp2_with (go_at_call 29; refine (shapes_calls _).mono ?_; rintro e w1 ⟨rfl, hw1⟩; have HT := Aside0.mk (HT0.out _ rfl); rw [← hw1] at HT; clear hw1)
  clear HT0
  go_loopw [12] (fun v12 wr => ∃ i : Nat, v12 = .int .i64 (i : Int) ∧ i ≤ 12 ∧ Aside0 (Tab w a A c wr ∧ ∀ j, j < i → a.f0 ≠ (j : Int) + 1)) (fun v12 _ => 12 - (intOf v12).toNat)
  case atStart => exact ⟨0, rfl, by omega, ⟨HT.out, fun j h => absurd h (Nat.not_lt_zero _)⟩⟩
  case round =>
    obtain ⟨i, rfl, hi, HR⟩ := hrel
    clear HT
    by_cases hlt : i < 12
    · have b1 : decide ((i : Int) < 12) = true := decide_eq_true (by omega)
      have hi12 : (i : Int) < 12 := by omega
      have hwi : wrap64 ((i : Int) + 1) = (i : Int) + 1 := by unfold wrap64; omega
      have HMS : Aside0 (12 - (intOf (Value.int IntKind.i64 ((i : Int) + 1))).toNat < 12 - (intOf (Value.int IntKind.i64 (i : Int))).toNat) := ⟨by simp only [intOf]; omega⟩
      obtain ⟨t0, t1⟩ := tab_at i hlt
      obtain ⟨n, hn⟩ : ∃ n, nameL.getD i ⟨#[]⟩ = n := ⟨_, rfl⟩
      rw [hn] at t0
      have r0 : wr.cell? ⟨w.heap.size + 1, i * 4, none⟩ = some (.string n) := by rw [blk_cell HR.out.1.tab]; exact t0
      have r1 : wr.cell? ⟨w.heap.size + 1, i * 4 + 1, none⟩ = some (.int .i64 ((i : Int) + 1)) := by rw [blk_cell HR.out.1.tab]; exact t1
      have k0 : wr.cell? ⟨w.heap.size, 0, none⟩ = some (.int .i64 a.f0) := by rw [blk_cell HR.out.1.box]; rfl
      have kk : ∀ o2, (wr.alloc o2).cell? ⟨w.heap.size, 0, none⟩ = some (.int .i64 a.f0) := fun o2 => pw_cell_below ((Below.refl _ _).alloc (Nat.le_refl _) o2) k0
      have HAL : Aside0 (∀ o2, Tab w a A c (wr.alloc o2)) := ⟨fun o2 => HR.out.1.next ((Below.refl _ _).alloc (Nat.le_refl _) o2)⟩
      by_cases hk : a.f0 = (i : Int) + 1
      · obtain ⟨fr, fnr, t2, hBK⟩ := backs i hlt a hk HA.out
        obtain ⟨fw, fnw, t3, hWR⟩ := writes i hlt a hk HA.out
        have r2 : wr.cell? ⟨w.heap.size + 1, i * 4 + 2, none⟩ = some (.func (.func fr) #[] #[]) := by rw [blk_cell HR.out.1.tab]; exact t2
        have r3 : wr.cell? ⟨w.heap.size + 1, i * 4 + 3, none⟩ = some (.func (.func fw) #[] #[]) := by rw [blk_cell HR.out.1.tab]; exact t3
        have hq : (((i : Int) + 1) != a.f0) = false := by simpa using hk.symm
        have HBK := Aside0.mk hBK
        have HKI := Aside0.mk hk
        have HWR := Aside0.mk hWR
        have HNM : Aside0 (nameOf a.f0 = n ∧ 1 ≤ a.f0 ∧ a.f0 ≤ 12) := ⟨by
          rw [← hn]; unfold nameOf; rw [hk]; congr 1, by omega, by omega⟩
        clear hBK hWR t0 t1 t2 t3 hn hk
        go_wp2_with fail
        obtain ⟨S, hS⟩ : ∃ S, S = wr.heap.size := ⟨_, rfl⟩
        obtain ⟨W1, hW1⟩ : ∃ W1, W1 = wr.alloc (.cells #[.string n, .int .i64 ((i : Int) + 1), .func (.func fr) #[] #[], .func (.func fw) #[] #[]] 68 (0, 0)) := ⟨_, rfl⟩
        have HW1 : Aside0 (Tab w a A c W1 ∧ W1.heap[S]? = some (.cells #[.string n, .int .i64 ((i : Int) + 1), .func (.func fr) #[] #[], .func (.func fw) #[] #[]] 68 (0, 0)) ∧ S + 1 ≤ W1.heap.size) := ⟨by
          rw [hW1, hS]
          exact ⟨HAL.out _, blk_new wr _, by simp⟩⟩
        have HS2 : Aside0 (w.heap.size + 2 ≤ S + 1) := ⟨by have := blk_lt HR.out.1.tab; omega⟩
        rw [← hW1, ← hS]
        clear hW1 hS r0 r1 r2 r3 k0 kk
        refine region_facts (ws := [7]) (G := fun _ w' => Aside0 (Tab w a A c w' ∧ w'.heap[S]? = some (.cells #[.string n, .int .i64 ((i : Int) + 1), .func (.func fr) #[] #[], .func (.func fw) #[] #[]] 68 (0, 0)) ∧ S + 1 ≤ w'.heap.size)) (φs := [Fact.eq (.pointer (some ⟨S, 0, none⟩)), Fact.eq (.string n), (⟨fun e x w' => e = 0 → Kd.R Kd.string 9 w' (S + 1) (fun _ => True) x ([n]), fun _ _ _ _ h hb he => Kd.R_below (h he) hb⟩ : Fact), Fact.eq (.pointer (some ⟨S, 3, none⟩)), Fact.eq (.func (.func fw) #[] #[]), Fact.eq (.agg #[.int .i64 a.f0, .string a.f1, .string a.f2, .slice A a.f3.length c, .string a.f4, .int .i64 a.f5, .int .i64 a.f6]), (⟨fun e x w' => e = 0 → Kd.R Kd.string 9 w' (S + 1) (fun _ => True) x (behind a), fun _ _ _ _ h hb he => Kd.R_below (h he) hb⟩ : Fact), (⟨fun e x w' => e = 1 ∧ Kd.R Kd.string 9 w' (S + 1) (fun _ => True) x ([n] ++ behind a), fun _ _ _ _ h hb => ⟨h.1, Kd.R_below h.2 hb⟩⟩ : Fact), (⟨fun e x w' => e = 1 ∧ Kd.R Kd.string 9 w' (S + 1) (fun _ => True) x ([n] ++ behind a), fun _ _ _ _ h hb => ⟨h.1, Kd.R_below h.2 hb⟩⟩ : Fact)]) (n := 9) (m := 52) (by kernel_rfl) (by kernel_rfl) rfl rfl (by kernel_rfl) (fun _ _ _ h hb => ⟨h.out.1.next hb, (hb.block _ (blk_lt h.out.2.1)).trans h.out.2.1, Nat.le_trans h.out.2.2 hb.size⟩) (⟨HW1.out.1.next (below_drew (Below.refl _ _)), HW1.out.2.1, HW1.out.2.2⟩) ⟨?ou0, ?ou1, ?ou2, ?ou3, ?ou4, ?ou5, ?ou6, ?ou7, ?ou8, trivial⟩ ?finu
        case ou0 =>
          refine ask_val [.fix 5 _] rfl 21 rfl (.inl rfl) ⟨⟨by kernel_rfl, by conv => lhs; whnf⟩, trivial⟩ ?_
          dsimp only [Has, Fact.eq]
          intro e ρ w' hc hf hg hG h5
          go_simp
          first | done | rfl
        case ou1 =>
          refine ask_step [.op 21 0 (Fact.eq _)] rfl 22 rfl (.inl rfl) ⟨⟨by kernel_rfl, rfl⟩, trivial⟩ 0 0 (by kernel_rfl) ?_
          dsimp only [Has, Fact.eq]
          intro e ρ w' hp hq hc hf hg hG h21
          have c0 : w'.cell? ⟨S, 0, none⟩ = some (.string n) := by rw [blk_cell hG.out.2.1]; rfl
          refine ⟨_, w', ?_, rfl, Below.refl _ _⟩
          go_simp
          first | done | rfl
        case ou2 =>
          refine ask_step [.op 22 1 (Fact.eq _)] rfl 23 rfl (.inl rfl) ⟨⟨by kernel_rfl, rfl⟩, trivial⟩ 0 0 (by kernel_rfl) ?_
          dsimp only [Has, Fact.eq]
          intro e ρ w' hp hq hc hf hg hG h22
          have hL := lit_R w' [n] (by simp)
          refine ⟨.slice (some ⟨w'.heap.size, 0, none⟩) 1 1, w'.alloc (.cells ([n].map Value.string).toArray 9), ?_, fun _ => Kd.R_lower hL hG.out.2.2, below_alloc (Below.refl _ _) _⟩
          go_simp
          first | done | rfl
        case ou3 =>
          refine ask_val [.fix 5 _] rfl 24 rfl (.inl rfl) ⟨⟨by kernel_rfl, by conv => lhs; whnf⟩, trivial⟩ ?_
          dsimp only [Has, Fact.eq]
          intro e ρ w' hc hf hg hG h5
          go_simp
          first | done | rfl
        case ou4 =>
          refine ask_step [.op 24 3 (Fact.eq _)] rfl 25 rfl (.inl rfl) ⟨⟨by kernel_rfl, rfl⟩, trivial⟩ 0 0 (by kernel_rfl) ?_
          dsimp only [Has, Fact.eq]
          intro e ρ w' hp hq hc hf hg hG h24
          have c0 : w'.cell? ⟨S, 3, none⟩ = some (.func (.func fw) #[] #[]) := by rw [blk_cell hG.out.2.1]; rfl
          refine ⟨_, w', ?_, rfl, Below.refl _ _⟩
          go_simp
          first | done | rfl
        case ou5 =>
          refine ask_step [.fix 1 _] rfl 26 rfl (.inl rfl) ⟨⟨by kernel_rfl, by conv => lhs; whnf⟩, trivial⟩ 0 0 (by kernel_rfl) ?_
          dsimp only [Has, Fact.eq]
          intro e ρ w' hp hq hc hf hg hG h1
          have hk := hG.out.1.box
          have c0 : w'.cell? ⟨w.heap.size, 0, none⟩ = some (.int .i64 a.f0) := by rw [blk_cell hk]; rfl
          have c1 : w'.cell? ⟨w.heap.size, 1, none⟩ = some (.string a.f1) := by rw [blk_cell hk]; rfl
          have c2 : w'.cell? ⟨w.heap.size, 2, none⟩ = some (.string a.f2) := by rw [blk_cell hk]; rfl
          have c3 : w'.cell? ⟨w.heap.size, 3, none⟩ = some (.slice A a.f3.length c) := by rw [blk_cell hk]; rfl
          have c4 : w'.cell? ⟨w.heap.size, 4, none⟩ = some (.string a.f4) := by rw [blk_cell hk]; rfl
          have c5 : w'.cell? ⟨w.heap.size, 5, none⟩ = some (.int .i64 a.f5) := by rw [blk_cell hk]; rfl
          have c6 : w'.cell? ⟨w.heap.size, 6, none⟩ = some (.int .i64 a.f6) := by rw [blk_cell hk]; rfl
          refine ⟨_, w', ?_, rfl, Below.refl _ _⟩
          go_simp
          first | done | rfl
        case ou6 =>
          refine ask_dyn [.op 25 4 (Fact.eq _), .op 26 5 (Fact.eq _)] rfl 27 rfl (.inl rfl) ⟨⟨by kernel_rfl, rfl⟩, ⟨by kernel_rfl, rfl⟩, trivial⟩ 0 0 (by kernel_rfl) 25 rfl ?_
          dsimp only [Has, Fact.eq]
          intro e ρ w' hp hq hc hf hg hG h25 h26
          obtain rfl : e = 0 := by omega
          refine ⟨fw, fnw, #[.agg #[.int .i64 a.f0, .string a.f1, .string a.f2, .slice A a.f3.length c, .string a.f4, .int .i64 a.f5, .int .i64 a.f6]], h25, HWR.out.here, HWR.out.name, HWR.out.body, by simp only [List.map_toArray, List.map_cons, List.map_nil, h26], (HWR.out.does A c w' (HE.out.below hG.out.1.below) (Kd.C_below HC.out.1 hG.out.1.below) HC.out.2).mono ?_⟩
          rintro en w2 ⟨v, rfl, hR, hb2⟩
          exact ⟨v, rfl, fun _ => Kd.R_lower hR hG.out.2.2, hb2⟩
        case ou7 =>
          refine ask_wval [.op 23 2 _, .op 27 6 _] rfl 28 rfl (.inl rfl) ⟨⟨by kernel_rfl, rfl⟩, ⟨by kernel_rfl, rfl⟩, trivial⟩ 0 0 (by kernel_rfl) ?_
          dsimp only [Has, Fact.eq]
          intro e ρ w' hp hq hc hf hg hG h23 h27
          obtain rfl : e = 0 := by omega
          have hR1 := h23 rfl
          have hR2 := h27 rfl
          obtain ⟨A2, c2, e2, hc2, hC2⟩ := Kd.R_reads hR2
          obtain ⟨v1, w1, hrun, hR3, hb3⟩ := run_append_strings w' (S + 1) (ρ (.tmp 23)) [n] (behind a) A2 c2 hR1 hC2 hG.out.2.2 (by have := HBL.out; simp; omega)
          refine ⟨v1, w1, ?_, ⟨rfl, hR3⟩, ⟨hG.out.1.keep hb3 HS2.out, (hb3.block S (Nat.lt_succ_self _)).trans hG.out.2.1, Nat.le_trans hG.out.2.2 hb3.size⟩, ⟨fun _ h => h, fun _ h => h, fun _ _ he => absurd he (Nat.succ_ne_zero _), fun _ h => h, fun _ h => h, fun _ h => h, fun _ _ he => absurd he (Nat.succ_ne_zero _), fun _ h => absurd h.1 (by decide), fun _ h => absurd h.1 (by decide), trivial⟩⟩
          unfold execOp
          simp only [resolve, invoke, builtin, Sem.run_bind, Sem.run_pure, Result.andThen_ok, List.map_toArray, List.map_cons, List.map_nil, e2, hrun]
        case ou8 =>
          refine ask_step [.op 28 7 _] rfl 6 rfl (.inl rfl) ⟨⟨by kernel_rfl, rfl⟩, trivial⟩ 1 1 (by kernel_rfl) ?_
          dsimp only [Has, Fact.eq]
          intro e ρ w' hp hq hc hf hg hG h28
          refine ⟨_, w', ?_, h28, Below.refl _ _⟩
          go_simp
          first | done | rfl
        case finu =>
          intro w' hG
          refine fin_eq (fin_eq (fin_fact (fun v2 hv2 => fin_eq (fin_eq (fin_eq (fin_fact (fun v6 hv6 => fin_fact (fun v7 hv7 => fin_fact (fun v8 hv8 => fin_nil (a' := ?_) ?_ ?_)))))))))
          rotate_left
          · simp only [Act.put, List.setIfInBounds_toArray, List.set_cons_zero, List.set_cons_succ]
            rfl
          obtain ⟨A6, c6, hv6⟩ := Kd.R_slice hv8.2
          subst hv6
          have HW2 := Aside0.mk (And.intro hG.out hv8.2)
          have s1 : w'.cell? ⟨S, 1, none⟩ = some (.int .i64 ((i : Int) + 1)) := by rw [blk_cell hG.out.2.1]; rfl
          clear hG hv2 hv6 hv7 hv8
          go_wp2_with fail
          obtain ⟨g, hgq⟩ : ∃ g, g = w'.heap.size := ⟨_, rfl⟩
          obtain ⟨W7, hW7⟩ : ∃ W7, W7 = w'.alloc (.cells (cs0 ((i : Int) + 1)) 31 (0, 0)) := ⟨_, rfl⟩
          have HW7 : Aside0 (Tab w a A c W7 ∧ W7.heap[S]? = some (.cells #[.string n, .int .i64 ((i : Int) + 1), .func (.func fr) #[] #[], .func (.func fw) #[] #[]] 68 (0, 0)) ∧ W7.heap[g]? = some (.cells (cs0 a.f0) 31 (0, 0)) ∧ S < g ∧ w.heap.size ≤ g ∧ g < W7.heap.size) := ⟨by
            rw [hW7, hgq, HKI.out]
            refine ⟨HW2.out.1.1.next ((Below.refl _ _).alloc (Nat.le_refl _) _), (((Below.refl w'.heap.size w').alloc (Nat.le_refl _) _).block _ (blk_lt HW2.out.1.2.1)).trans HW2.out.1.2.1, blk_new w' _, HW2.out.1.2.2, HW2.out.1.1.below.size, by simp⟩⟩
          have HRW : Aside0 (∀ W0 o W, Below W7.heap.size W7 W0 → Wrote W0 g o W → Kd.R Kd.string 9 W (S + 1) (fun _ => True) (.slice A6 ([n] ++ behind a).length c6) ([n] ++ behind a)) := ⟨fun W0 o W hb hw => by
            have h7 : Below w'.heap.size w' W7 := by rw [hW7]; exact (Below.refl _ _).alloc (Nat.le_refl _) _
            have hz : W7.heap.size = w'.heap.size + 1 := by rw [hW7]; simp
            refine Kd.R_mono (Kd.R_move (Kd.R_bound HW2.out.2) (fun k hk => ?_)) (fun _ _ => trivial)
            have hlt := hk.2.2.1
            have hbs := hb.size
            rw [hw.block k (by omega) (by omega), hb.block k (by omega), h7.block k hlt]⟩
          obtain ⟨A7, hA7⟩ : ∃ A7, A7 = (if c6 = 1 then A6 else A6.map (·.add 1)) := ⟨_, rfl⟩
          obtain ⟨c7, hc7⟩ : ∃ c7, c7 = c6 - 1 := ⟨_, rfl⟩
          obtain ⟨L, hL⟩ : ∃ L, L = (behind a).length := ⟨_, rfl⟩
          have hlen : ([n] ++ behind a).length = L + 1 := by rw [hL]; simp
          have hle6 : L + 1 ≤ c6 := by
            have := HRW.out W7 _ W7 (Below.refl _ _) (Wrote.of (Below.refl _ _) HW7.out.2.2.1)
            obtain ⟨A9, c9, e9, h9, _⟩ := Kd.R_reads this
            injection e9 with _ _ e9c
            rw [hlen] at h9; omega
          have HRD : Aside0 (∀ W0, Below W7.heap.size W7 W0 → Reads W0 g 31 (cs0 a.f0) A7 (behind a) ∧ (behind a).length ≤ c7) := ⟨fun W0 hb => by
            have hbs := hb.size
            refine ⟨⟨(hb.block _ HW7.out.2.2.2.2.2).trans HW7.out.2.2.1, fun W o hw => ?_, fun W o hw => HE.out.below (HW7.out.1.below.trans ((below_le hb (by have := HW7.out.1.below.size; omega)).trans (hw.below HW7.out.2.2.2.2.1 (by have := HW7.out.1.below.size; omega)))), behind_sizes a HA.out⟩, by omega⟩
            obtain ⟨A9, c9, e9, h9, hC9⟩ := Kd.R_reads (HRW.out W0 o W hb hw)
            injection e9 with e1 _ e3
            have hd := Kd.C_drop (m := 1) (c := c6) (e1 ▸ hC9) (by rw [hlen]; omega) (by rw [hlen]; exact hle6)
            rw [hA7]
            exact hd⟩
          rw [hlen]
          have e31 : (w'.alloc (.cells #[.int .i64 ((i : Int) + 1), .string ⟨#[]⟩, .string ⟨#[]⟩, .slice none 0 0, .string ⟨#[]⟩, .int .i64 0, .int .i64 0] 31)) = W7 := hW7.symm
          rw [e31, ← hgq]
          clear hW7 hgq e31 s1 HW2
          refine region_facts (ws := [4]) (G := fun e w' => Aside0 ((e = 0 → Tab w a A c w' ∧ w'.heap[S]? = some (.cells #[.string n, .int .i64 ((i : Int) + 1), .func (.func fr) #[] #[], .func (.func fw) #[] #[]] 68 (0, 0)) ∧ Below W7.heap.size W7 w') ∧ (e = 1 → ∃ cs', Wrote W7 g (.cells cs' 31 (0, 0)) w' ∧ ActIs w' cs' (only a)))) (φs := [Fact.eq (.pointer (some ⟨S, 2, none⟩)), Fact.eq (.func (.func fr) #[] #[]), Fact.eq ?vz2, Fact.eq (.slice A7 L c7), Fact.eq (.int .i64 0), Fact.eq ?vz5]) (n := 6) (m := 52) (by kernel_rfl) (by kernel_rfl) rfl rfl (by kernel_rfl) (fun _ _ _ h hb => ⟨fun he => ⟨(h.out.1 he).1.next hb, (hb.block _ (blk_lt (h.out.1 he).2.1)).trans (h.out.1 he).2.1, below_then (h.out.1 he).2.2 (h.out.1 he).2.2.size hb⟩, fun he => by obtain ⟨cs', h1, h2⟩ := h.out.2 he; exact ⟨cs', h1.then hb, h2.below hb⟩⟩) (⟨fun _ => ⟨HW7.out.1.next (below_drew (Below.refl _ _)), HW7.out.2.1, below_drew (Below.refl _ _)⟩, fun he => by cases he⟩) ⟨?oz0, ?oz1, ?oz2, ?oz3, ?oz4, ?oz5, trivial⟩ ?finz
          case oz0 =>
            refine ask_val [.fix 5 _] rfl 32 rfl (.inl rfl) ⟨⟨by kernel_rfl, by conv => lhs; whnf⟩, trivial⟩ ?_
            dsimp only [Has, Fact.eq]
            intro e ρ w' hc hf hg hG h5
            go_simp
            first | done | rfl
          case oz1 =>
            refine ask_step [.op 32 0 (Fact.eq _)] rfl 33 rfl (.inl rfl) ⟨⟨by kernel_rfl, rfl⟩, trivial⟩ 0 0 (by kernel_rfl) ?_
            dsimp only [Has, Fact.eq]
            intro e ρ w' hp hq hc hf hg hG h32
            obtain rfl : e = 0 := by omega
            have c0 : w'.cell? ⟨S, 2, none⟩ = some (.func (.func fr) #[] #[]) := by rw [blk_cell (hG.out.1 rfl).2.1]; rfl
            refine ⟨_, w', ?_, rfl, Below.refl _ _⟩
            go_simp
            first | done | rfl
          case oz2 =>
            refine ask_val [.fix 6 _] rfl 34 rfl (.inl rfl) ⟨⟨by kernel_rfl, by conv => lhs; whnf⟩, trivial⟩ ?_
            dsimp only [Has, Fact.eq]
            intro e ρ w' hc hf hg hG h6
            go_simp
            with_reducible rfl
          case oz3 =>
            refine ask_val [.op 34 2 (Fact.eq _)] rfl 35 rfl (.inl rfl) ⟨⟨by kernel_rfl, rfl⟩, trivial⟩ ?_
            dsimp only [Has, Fact.eq]
            intro e ρ w' hc hf hg hG h34
            go_simp
            (intro h; omega)
          case oz4 =>
            refine ask_wdyn [.op 33 1 (Fact.eq _), .fix 7 _, .op 35 3 (Fact.eq _)] rfl 36 rfl (.inl rfl) ⟨⟨by kernel_rfl, rfl⟩, ⟨by kernel_rfl, by conv => lhs; whnf⟩, ⟨by kernel_rfl, rfl⟩, trivial⟩ 0 0 (by kernel_rfl) 33 rfl ?_
            dsimp only [Has, Fact.eq]
            intro e ρ w' hp hq hc hf hg hG h33 h7 h35
            obtain rfl : e = 0 := by omega
            have h1 := (hG.out.1 rfl).2.2
            obtain ⟨hRd, hc9⟩ := HRD.out w' h1
            refine ⟨fr, fnr, #[.pointer (some ⟨g, 0, none⟩), .slice A7 L c7], h33, HBK.out.here, HBK.out.name, HBK.out.body, by simp only [List.map_toArray, List.map_cons, List.map_nil, h7, h35], ?_⟩
            rw [hL]
            refine (HBK.out.does A7 c7 w' g hRd hc9).mono ?_
            rintro en w2 ⟨rfl, cs', hw2, hact⟩
            exact ⟨_, rfl, rfl, ⟨fun he => (by cases he), fun _ => ⟨cs', (Wrote.of h1 HW7.out.2.2.1).again hw2, hact⟩⟩, ⟨fun _ h => h, fun _ h => h, fun _ h => h, fun _ h => h, fun _ h => h, fun _ h => h, trivial⟩⟩
          case oz5 =>
            refine ask_val [.op 36 4 (Fact.eq _)] rfl 8 rfl (.inl rfl) ⟨⟨by kernel_rfl, rfl⟩, trivial⟩ ?_
            dsimp only [Has, Fact.eq]
            intro e ρ w' hc hf hg hG h36
            go_simp
            with_reducible rfl
          case finz =>
            intro w' hG
            refine fin_eq (fin_eq (fin_eq (fin_eq (fin_eq (fin_eq (fin_nil (a' := ?_) ?_ ?_))))))
            rotate_left
            · simp only [Act.put, List.setIfInBounds_toArray, List.set_cons_zero, List.set_cons_succ]
              rfl
            obtain ⟨cs', hw8, A8, c8, hcs, hC8, hc8⟩ := hG.out.2 rfl
            subst hcs
            have HB8 : Aside0 (Below w.heap.size w w') := ⟨HW7.out.1.below.trans (hw8.below HW7.out.2.2.2.2.1 (Nat.le_of_lt (Nat.lt_of_le_of_lt HW7.out.2.2.2.2.1 HW7.out.2.2.2.2.2)))⟩
            have hbox : w'.heap[w.heap.size]? = some (.cells #[.int .i64 a.f0, .string a.f1, .string a.f2, .slice A a.f3.length c, .string a.f4, .int .i64 a.f5, .int .i64 a.f6] 31 (0, 0)) := (hw8.block _ (blk_lt HW7.out.1.box) (by have := HW7.out.2.2.2.1; have := HS2.out; omega)).trans HW7.out.1.box
            have hbk := hw8.at_
            have p0 : w'.cell? ⟨w.heap.size, 0, none⟩ = some (.int .i64 a.f0) := by rw [blk_cell hbox]; rfl
            have p1 : w'.cell? ⟨w.heap.size, 1, none⟩ = some (.string a.f1) := by rw [blk_cell hbox]; rfl
            have p2 : w'.cell? ⟨w.heap.size, 2, none⟩ = some (.string a.f2) := by rw [blk_cell hbox]; rfl
            have p3 : w'.cell? ⟨w.heap.size, 3, none⟩ = some (.slice A a.f3.length c) := by rw [blk_cell hbox]; rfl
            have p4 : w'.cell? ⟨w.heap.size, 4, none⟩ = some (.string a.f4) := by rw [blk_cell hbox]; rfl
            have p5 : w'.cell? ⟨w.heap.size, 5, none⟩ = some (.int .i64 a.f5) := by rw [blk_cell hbox]; rfl
            have p6 : w'.cell? ⟨w.heap.size, 6, none⟩ = some (.int .i64 a.f6) := by rw [blk_cell hbox]; rfl
            have q0 : w'.cell? ⟨g, 0, none⟩ = some (.int .i64 (only a).f0) := by rw [blk_cell hbk]; rfl
            have q1 : w'.cell? ⟨g, 1, none⟩ = some (.string (only a).f1) := by rw [blk_cell hbk]; rfl
            have q2 : w'.cell? ⟨g, 2, none⟩ = some (.string (only a).f2) := by rw [blk_cell hbk]; rfl
            have q3 : w'.cell? ⟨g, 3, none⟩ = some (.slice A8 (only a).f3.length c8) := by rw [blk_cell hbk]; rfl
            have q4 : w'.cell? ⟨g, 4, none⟩ = some (.string (only a).f4) := by rw [blk_cell hbk]; rfl
            have q5 : w'.cell? ⟨g, 5, none⟩ = some (.int .i64 (only a).f5) := by rw [blk_cell hbk]; rfl
            have q6 : w'.cell? ⟨g, 6, none⟩ = some (.int .i64 (only a).f6) := by rw [blk_cell hbk]; rfl
            have HCA : Aside0 (Kd.C Kd.string w' A a.f3.length a.f3) := ⟨Kd.C_below HC.out.1 HB8.out⟩
            have HCB := Aside0.mk (And.intro hC8 hc8)
            have HR8 := Aside0.mk (HRW.out W7 _ w' (Below.refl _ _) hw8)
            obtain ⟨lb, hlb⟩ : ∃ lb : ByteArray, lb = ⟨(lineL a).toArray⟩ := ⟨_, rfl⟩
            have hlz : lb.size = (lineL a).length := by rw [hlb]; show (lineL a).toArray.size = _; simp
            have hll := line_len a HA.out
            obtain ⟨gw, capw, ev, hgb, hglt, _⟩ := Kd.R_form HR8.out (by simp)
            injection ev with ev1 _ ev3
            subst ev1
            subst ev3
            have HJ : Aside0 (∀ W9, Below w'.heap.size w' W9 → Calls Tryz.prog 31 #[.slice (some ⟨gw, 0, none⟩) (L + 1) c6, .string ⟨#[32]⟩] W9 fun e w2 => e = .returned (.string lb) ∧ Below W9.heap.size W9 w2) := ⟨fun W9 hb9 => by
              have hR9 := Kd.R_below HR8.out hb9
              obtain ⟨A9, c9, e9, h9, hC9⟩ := Kd.R_reads hR9
              injection e9 with e91 _ e93
              subst e91
              have hcells : ∀ (j : Nat) x, ([n] ++ behind a)[j]? = some x → W9.cell? ⟨gw, 0 + j, none⟩ = some (.string x) := fun j x hx => by
                have hjl := (List.getElem?_eq_some_iff.1 hx).1
                obtain ⟨ad, ead, hcell⟩ := Kd.at_string hC9 (j : Int) (by omega) (by omega)
                cases ead
                have hrd : rdOf ByteArray.empty ([n] ++ behind a) (j : Int) = x := by unfold rdOf; rw [Int.toNat_natCast, List.getD_eq_getElem?_getD, hx]; rfl
                rw [Int.toNat_natCast, hrd, Addr.add_lit] at hcell
                exact hcell
              have hline : (Lib.join (([n] ++ behind a).map (·.data.toList)) (⟨#[32]⟩ : ByteArray).data.toList) = lineL a := by unfold lineL; rw [HNM.out.1]; rfl
              have := Tryz.strings_Join gw 0 c6 ([n] ++ behind a) ⟨#[32]⟩ W9 hcells (Nat.lt_of_lt_of_le hglt hb9.size) (by rw [hlen]; have := HBL.out; omega) (by rw [hlen]; exact hle6) (by rw [hline]; omega)
              rw [hline, ← hlb, hlen] at this
              exact this⟩
            have HS : Aside0 (Calls Tryz.prog 30 #[actV a A c, actV (only a) A8 c8] w' fun e w2 => e = .returned (.bool (sameA a (only a))) ∧ Below w'.heap.size w' w2) := ⟨same_calls a (only a) A A8 c c8 w' HCA.out HC.out.2 HCB.out.1 HCB.out.2 (by omega)⟩
            have HPA : Aside0 (∀ b, sameA a (only a) = b → (b = false → o = .tuple #[.string ⟨#[]⟩, .int .i64 245]) ∧ (b = true → 262144 < lb.size → o = .tuple #[.string ⟨#[]⟩, .int .i64 241]) ∧ (b = true → ¬ 262144 < lb.size → o = .tuple #[.string lb, .int .i64 0])) := ⟨fun b hb => by
              have e1 : printA a = if sameA a (only a) = true then (if 262144 < (lineL a).length then (⟨#[]⟩, 241) else (⟨(lineL a).toArray⟩, 0)) else (⟨#[]⟩, 245) := by unfold printA; rw [if_pos HNM.out.2]
              rw [hb, ← hlz, ← hlb] at e1
              refine ⟨fun h => ?_, fun h h2 => ?_, fun h h2 => ?_⟩
              · rw [ho.out, e1, h]; rfl
              · rw [ho.out, e1, h, if_pos rfl, if_pos h2]
              · rw [ho.out, e1, h, if_pos rfl, if_neg h2]⟩
            obtain ⟨b, hb⟩ : ∃ b, sameA a (only a) = b := ⟨_, rfl⟩
            rw [hb] at HS
            have HPB := Aside0.mk (HPA.out b hb)
            have hz0 : ((0 : Int) != 0) = false := rfl
            unfold actV at HS
            clear hG hb hlb hlz hll hbox hbk hw8 HRW HRD HPA hL hA7 hc7 hlen hle6
            cases b with
            | false =>
              go_wp2_with (go_at_call 30; go_must (refine HS.out.mono ?_); rintro e w9 ⟨rfl, hb9⟩; have HB9 := Aside0.mk (below_then HB8.out HB8.out.size hb9); clear hb9)
              go_ret2
              exact ⟨by rw [HPB.out.1 (by trivial)]; rfl, HB9.out⟩
            | true =>
              by_cases hbig : 262144 < lb.size
              · have b2 : decide ((262144 : Int) < (lb.size : Int)) = true := decide_eq_true (by omega)
                have b3 : (262144 < lb.size) = True := eq_true hbig
                have b4 : decide (262144 < lb.size) = true := decide_eq_true hbig
                have HO := Aside0.mk (HPB.out.2.1 (by trivial) hbig)
                clear hbig
                go_wp2_with (first
                  | (go_at_call 30; refine HS.out.mono ?_; rintro e w9 ⟨rfl, hb9⟩; have HB9 := Aside0.mk (And.intro hb9 (below_then HB8.out HB8.out.size hb9)); clear hb9)
                  | (go_at_call 31; refine (HJ.out _ HB9.out.1).mono ?_; rintro e w10 ⟨rfl, hb10⟩; have HB10 := Aside0.mk (below_then HB9.out.2 HB9.out.2.size hb10); clear hb10))
                go_ret2
                exact ⟨by rw [HO.out]; rfl, HB10.out⟩
              · have b2 : decide ((262144 : Int) < (lb.size : Int)) = false := decide_eq_false (by omega)
                have b3 : (262144 < lb.size) = False := eq_false hbig
                have b4 : decide (262144 < lb.size) = false := decide_eq_false hbig
                have HO := Aside0.mk (HPB.out.2.2 (by trivial) hbig)
                clear hbig
                go_wp2_with (first
                  | (go_at_call 30; refine HS.out.mono ?_; rintro e w9 ⟨rfl, hb9⟩; have HB9 := Aside0.mk (And.intro hb9 (below_then HB8.out HB8.out.size hb9)); clear hb9)
                  | (go_at_call 31; refine (HJ.out _ HB9.out.1).mono ?_; rintro e w10 ⟨rfl, hb10⟩; have HB10 := Aside0.mk (below_then HB9.out.2 HB9.out.2.size hb10); clear hb10))
                go_ret2
                exact ⟨by rw [HO.out]; rfl, HB10.out⟩
      · obtain ⟨fr, fw, t2, t3⟩ := tab_fn i hlt
        have r2 : wr.cell? ⟨w.heap.size + 1, i * 4 + 2, none⟩ = some (.func (.func fr) #[] #[]) := by rw [blk_cell HR.out.1.tab]; exact t2
        have r3 : wr.cell? ⟨w.heap.size + 1, i * 4 + 3, none⟩ = some (.func (.func fw) #[] #[]) := by rw [blk_cell HR.out.1.tab]; exact t3
        have hq : (((i : Int) + 1) != a.f0) = true := by simpa using fun e => hk e.symm
        have HN : Aside0 (∀ j, j < i + 1 → a.f0 ≠ (j : Int) + 1) := ⟨fun j hj => by
          by_cases e : j = i
          · rw [e]; exact hk
          · exact HR.out.2 j (by omega)⟩
        clear hk t0 t1 t2 t3 hn
        go_wp2_with fail
        go_roundw
        case rel => exact ⟨i + 1, rfl, hlt, ⟨HAL.out _, HN.out⟩⟩
        case measure => exact HMS.out
    · obtain rfl : i = 12 := by omega
      have b1 : decide (((12 : Nat) : Int) < 12) = false := by decide
      have HO : Aside0 (o = .tuple #[.string ⟨#[]⟩, .int .i64 242]) := ⟨by
        have e1 : printA a = (⟨#[]⟩, 242) := by
          unfold printA
          rw [if_neg]
          rintro ⟨h1, h2⟩
          exact HR.out.2 (a.f0.toNat - 1) (by omega) (by omega)
        rw [ho.out, e1]⟩
      go_wp2_with fail
      go_ret2
      exact ⟨by rw [HO.out]; rfl, HR.out.1.below⟩
end Go.Proofs.YtkfjjmmpbfjhaaaGreatDoor.Tells
namespace Go.Proofs.YtkfjjmmpbfjhaaaGreatDoor.Tells
open Go.RowKit Go.Proofs.YtkfjjmmpbfjhaaaGreatDoor.Facts Go.Proofs.YtkfjjmmpbfjhaaaGreatDoor.PScriptActs Go.Proofs.YtkfjjmmpbfjhaaaGreatDoorW.PrintWords Go.Proofs.YtkfjjmmpbfjhaaaGreatDoorW.PrintLast Go.Proofs.YtkfjjmmpbfjhaaaGreatDoorW.PrintMore
attribute [local go_sem] max2_int min2_int max_two min_two max_three min_three max_four min_four
set_option linter.unusedVariables false
set_option linter.unusedSimpArgs false
section
variable {ops : Array Oper} {rest : List Oper} {o : Oper} {a : Act} {Q : Exit → Act → World → Prop} {K : Act → World → Prop}
end
section
variable {ops : Array Oper} {rest : List Oper} {o : Oper} {a : Act} {Q : Exit → Act → World → Prop}
end
section
variable {ops : Array Oper} {rest : List Oper} {o : Oper} {a : Act} {Q : Exit → Act → World → Prop} {K : Act → World → Prop}
end
end Go.Proofs.YtkfjjmmpbfjhaaaGreatDoor.Tells
namespace Go.Proofs.YtkfjjmmpbfjhaaaGreatDoor.Tells
open Go.RowKit Go.Proofs.YtkfjjmmpbfjhaaaGreatDoor.Facts Go.Proofs.YtkfjjmmpbfjhaaaGreatDoor.PScriptActs Go.Proofs.YtkfjjmmpbfjhaaaGreatDoorW.PrintWords Go.Proofs.YtkfjjmmpbfjhaaaGreatDoorW.PrintLast Go.Proofs.YtkfjjmmpbfjhaaaGreatDoorW.PrintMore
attribute [local go_sem] max2_int min2_int max_two min_two max_three min_three max_four min_four
set_option linter.unusedVariables false
set_option linter.unusedSimpArgs false
theorem Buf.own {w w' : World} {base : Nat} {v : Value} {l : List UInt8} (h : Buf w base v l) (hs : w.heap.size ≤ w'.heap.size) (hk : ∀ k, v.ownBlock = some k → w'.heap[k]? = w.heap[k]?) : Buf w' base v l := by
  obtain ⟨g, cap, rfl, ⟨h1, h2⟩, h3, h4, h5⟩ := h
  have hh := hk g rfl
  exact ⟨g, cap, rfl, ⟨h1, Nat.lt_of_lt_of_le h2 hs⟩, h3, fun j u hu => (cell_heap hh _).1.trans (h4 j u hu), fun j hj => by rw [(cell_heap hh _).1, (cell_heap hh _).2]; exact h5 j hj⟩
def boxC (a : S31) (A : Option Addr) (c : Nat) : Array Value := #[.int .i64 a.f0, .string a.f1, .string a.f2, .slice A a.f3.length c, .string a.f4, .int .i64 a.f5, .int .i64 a.f6]
/-- a line that is being written, as the loop finds it -/
structure LineAt (w : World) (a : S31) (A : Option Addr) (c G : Nat) (v : Value) (l : List UInt8) (b : S31) (wr : World) : Prop where
  below : Below w.heap.size w wr
  box : wr.heap[w.heap.size]? = some (.cells (boxC a A c) 31 (0, 0))
  res : wr.heap[w.heap.size + 1]? = some (.cells (cs0 0) 31 (0, 0))
  n : ∃ A' c', wr.heap[G]? = some (.cells (boxC b A' c') 31 (0, 0)) ∧ ((b.f3 = [] ∧ A' = none ∧ c' = 0) ∨ (b.f3 = a.f3 ∧ A' = A ∧ c' = c))
  buf : Buf wr (w.heap.size + 2) v l
  apart : v.ownBlock ≠ some G
  far : w.heap.size + 2 ≤ G
theorem LineAt.next {w : World} {a : S31} {A : Option Addr} {c G : Nat} {v : Value} {l : List UInt8} {b : S31} {wr w2 : World} (h : LineAt w a A c G v l b wr) (hb : Below wr.heap.size wr w2) : LineAt w a A c G v l b w2 :=
  ⟨below_then h.below h.below.size hb, (hb.block _ (blk_lt h.box)).trans h.box, (hb.block _ (blk_lt h.res)).trans h.res, by obtain ⟨A', c', h1, h2⟩ := h.n; exact ⟨A', c', (hb.block _ (blk_lt h1)).trans h1, h2⟩, h.buf.below hb, h.apart, h.far⟩
theorem LineAt.put {w : World} {a : S31} {A : Option Addr} {c G : Nat} {v : Value} {l : List UInt8} {b b1 : S31} {wr : World} (h : LineAt w a A c G v l b wr) (i : Nat) (x : Value) (hx : ∀ A' c', ((b.f3 = [] ∧ A' = none ∧ c' = 0) ∨ (b.f3 = a.f3 ∧ A' = A ∧ c' = c)) → ∃ A1 c1, (boxC b A' c').setIfInBounds i x = boxC b1 A1 c1 ∧ ((b1.f3 = [] ∧ A1 = none ∧ c1 = 0) ∨ (b1.f3 = a.f3 ∧ A1 = A ∧ c1 = c))) : LineAt w a A c G v l b1 (wr.setCell ⟨G, i, none⟩ x) := by
  obtain ⟨A', c', h1, h2⟩ := h.n
  obtain ⟨A1, c1, e1, e2⟩ := hx A' c' h2
  have hf := h.far
  have hs : (wr.setCell ⟨G, i, none⟩ x).heap.size = wr.heap.size := by simp [World.setCell]
  have hold : ∀ k, k ≠ G → (wr.setCell ⟨G, i, none⟩ x).heap[k]? = wr.heap[k]? := fun k hk => Below.heap_setCell wr _ x k (by exact hk)
  refine ⟨h.below.trans ⟨rfl, rfl, rfl, Nat.le_of_eq hs.symm, fun k hk => hold k (by omega)⟩, (hold _ (by omega)).trans h.box, (hold _ (by omega)).trans h.res, ⟨A1, c1, ?_, e2⟩, h.buf.own (Nat.le_of_eq hs.symm) (fun k hk => hold k (fun e => h.apart (by rw [hk, e]))), h.apart, h.far⟩
  rw [← e1]; exact blk_set h1 i x

theorem meas_step (n j : Nat) (h : j < n) : n - (intOf (Value.int IntKind.i64 ((j : Int) + 1))).toNat < n - (intOf (Value.int IntKind.i64 (j : Int))).toNat := by simp only [intOf]; omega
theorem wrap_next (j : Nat) (h : j < 4611686018427387904) : wrap64 ((j : Int) + 1) = (j : Int) + 1 := by unfold wrap64; omega
theorem C_nil (w : World) : Kd.C Kd.string w none ([] : List ByteArray).length [] := by
  obtain ⟨A, c, e, _, h⟩ := Kd.R_reads (Kd.R_nil Kd.string 9 w 0 (fun _ => True))
  injection e with e1
  rw [e1]; exact h
end Go.Proofs.YtkfjjmmpbfjhaaaGreatDoor.Tells
