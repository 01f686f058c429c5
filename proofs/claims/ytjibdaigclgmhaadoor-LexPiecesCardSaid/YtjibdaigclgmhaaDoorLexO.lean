/- LexPieces, walked: the law answers true for every source. Conditions: those that each theorem states. -/
import Derived.Test.YtjibdaigclgmhaaDoorLexL
import Derived.Test.YtjibdaigclgmhaaDoorFacts
namespace Go.Proofs.YtjibdaigclgmhaaDoor.LexW
open Go.RowKit Go.Maps Go.Proofs.YtjibdaigclgmhaaDoor.Lex Go.Proofs.YtjibdaigclgmhaaDoor.PLexTokens Go.Proofs.YtjibdaigclgmhaaDoorW.PrintWords Go.Proofs.YtjibdaigclgmhaaDoorW.PrintLast Go.Proofs.YtjibdaigclgmhaaDoorW.PrintMore Go.Proofs.YtjibdaigclgmhaaDoor.Facts
attribute [local go_sem] max2_int min2_int max_two min_two max_three min_three max_four min_four
set_option linter.unusedVariables false
set_option linter.unusedSimpArgs false
set_option maxHeartbeats 4000000 in
set_option maxRecDepth 1000000 in
theorem pieces_bad (s : ByteArray) (a : Int × Nat) (hq : tokensS (bl s) = .inr a) (w : World) (E : Erg w) : Calls Tryd.prog 5 #[.string s] w fun e w' => e = .returned (.bool true) ∧ Below w.heap.size w w' := by
  have hne : (a.1 != 0) = true := by rcases tokensS_inr hq with h | h <;> rw [h] <;> rfl
  have HE := Aside0.mk E
  have HQ := Aside0.mk hq
  clear E hq
  go_enter Tryd.func5, Tryd.ntmps5
  go_wp2_with fail
  refine (known_calls _ HE.out).mono ?_
  rintro e w1 ⟨rfl, hb⟩
  have HW1 := Aside0.mk hb
  clear hb
  go_wp2_with fail
  refine (tokens_calls s _ (HE.out.below HW1.out)).mono ?_
  rintro e w2 h
  rw [HQ.out] at h
  obtain ⟨rfl, hb⟩ := h
  have hk := blk_new w2 (.cells #[.int .i64 a.1, .int .i64 (a.2 : Int)] 25 (0, 0))
  have d0 := blk_cell hk 0
  have HW2 := Aside0.mk (below_then HW1.out HW1.out.size hb)
  clear hb hk
  go_wp2_with fail
  go_ret
  exact ⟨rfl, HW2.out.alloc HW2.out.size _⟩
set_option maxHeartbeats 4000000 in
set_option maxRecDepth 1000000 in
theorem pieces_good (s : ByteArray) (l : List TokA) (hq : tokensS (bl s) = .inl l) (w : World) (E : Erg w) : Calls Tryd.prog 5 #[.string s] w fun e w' => e = .returned (.bool true) ∧ Below w.heap.size w w' := by
  obtain ⟨hx, hs⟩ := tokensS_inl hq
  rw [bl_len] at hs
  obtain ⟨l0, hl0⟩ := hx.last
  rw [Nat.zero_add, bl_len] at hl0
  have hlen : l.length = l0.length + 1 := by rw [hl0]; simp
  have hlast : l[l0.length]? = some ⟨stopT, s.size⟩ := by rw [hl0]; simp
  obtain ⟨t0, ht0⟩ : ∃ t0, l[0]? = some t0 := ⟨l[0]'(by omega), List.getElem?_eq_getElem (by omega)⟩
  have hplen : ∀ t ∈ l, t.place ≤ s.size := by
    intro t ht
    obtain ⟨p, h1, h2, _⟩ := hx.place t ht
    rw [bl_len] at h2; omega
  have hll : l.length ≤ s.size + 1 := by have := Lexes_len hx; rw [bl_len] at this; exact this
  have HE := Aside0.mk E
  have HQ := Aside0.mk hq
  have HX := Aside0.mk hx
  have HPL := Aside0.mk hplen
  clear E hq hx hl0 hplen
  go_enter Tryd.func5, Tryd.ntmps5
  go_wp2_with fail
  refine (known_calls _ HE.out).mono ?_
  rintro e w1 ⟨rfl, hb⟩
  have HW1 := Aside0.mk hb
  clear hb
  go_wp2_with fail
  refine (tokens_calls s _ (HE.out.below HW1.out)).mono ?_
  rintro e w2 h
  rw [HQ.out] at h
  obtain ⟨⟨A, c, rfl, hR⟩, hb⟩ := h
  obtain ⟨ad, c2, hsl⟩ := Kd.R_slice1 hR (by rw [List.length_map]; omega)
  rw [List.length_map] at hsl
  injection hsl with hA _ _
  subst hA
  have hC := (Kd.R_reads' hR).2.2
  rw [List.length_map] at hC
  have hk := blk_new w2 (.cells #[.int .i64 0, .int .i64 0] 25 (0, 0))
  have d0 := blk_cell hk 0
  have hC3 := Kd.C_below hC (below_alloc (Below.refl w2.heap.size w2) (.cells #[.int .i64 0, .int .i64 0] 25 (0, 0)))
  obtain ⟨e0, _, _, e3⟩ := tok_at hC3 _ _ hlast
  obtain ⟨_, _, _, f3⟩ := tok_at hC3 _ _ ht0
  rw [Nat.zero_mul, add0] at f3
  have hp0 : t0.place ≤ s.size := HPL.out t0 (List.mem_of_getElem? ht0)
  have HW2 := Aside0.mk (below_then HW1.out HW1.out.size hb)
  have HC := Aside0.mk hC
  clear hb hk hR hC hC3
  go_wp2_with fail
  have hah : tokensS (bl (s.extract 0 t0.place)) = .inl [⟨stopT, t0.place⟩] := by
    have h1 := HX.out.ahead t0 ht0
    have h2 : bl (s.extract 0 t0.place) = (bl s).take t0.place := by rw [bl_extract]; simp
    rw [← h2] at h1
    exact tokensS_of h1 (by rw [h2, List.length_take, bl_len]; omega)
  have HAH := Aside0.mk hah
  clear hah e0 e3 f3 d0
  refine (tokens_calls _ _ (HE.out.below (HW2.out.alloc HW2.out.size _))).mono ?_
  rintro e w3 h
  rw [HAH.out] at h
  obtain ⟨⟨A2, c3, rfl, hR2⟩, hb⟩ := h
  have hk := blk_new w3 (.cells #[.int .i64 0, .int .i64 0] 25 (0, 0))
  have d0 := blk_cell hk 0
  have hW3 : Below w2.heap.size w2 w3 := Below.trans ((Below.refl w2.heap.size w2).alloc (Nat.le_refl _) _) (below_le hb (by simp))
  have hC4 := Kd.C_below HC.out (below_then hW3 hW3.size (below_alloc (Below.refl w3.heap.size w3) (.cells #[.int .i64 0, .int .i64 0] 25 (0, 0))))
  have hW4 : Below w.heap.size w (w3.alloc (.cells #[.int .i64 0, .int .i64 0] 25 (0, 0))) := (below_then HW2.out HW2.out.size hW3).alloc (by have := HW2.out.size; have := hW3.size; omega) _
  have HC4 := Aside0.mk hC4
  have HW4 := Aside0.mk hW4
  clear hb hk hW3 hC4 hW4 hR2 HC HAH ht0 hp0
  have hl1 : ([⟨stopT, t0.place⟩] : List TokA).length = 1 := rfl
  rw [hl1]
  clear hl1
  go_wp2_with fail
  clear d0
  go_loopw [9] (fun v9 wr => ∃ i : Nat, v9 = .int .i64 (i : Int) ∧ i ≤ l0.length ∧ Aside0 (Kd.C k42 wr (some ad) l.length (l.map tokS)) ∧ Aside0 (Below w.heap.size w wr)) (fun v9 _ => l0.length - (intOf v9).toNat)
  case atStart => exact ⟨0, rfl, Nat.zero_le _, HC4, HW4⟩
  case round =>
    clear HC4 HW4 HW1 HW2
    obtain ⟨i, rfl, hi, HC, HW⟩ := hrel
    by_cases hlt : i < l0.length
    · have b1 : decide ((i : Int) < (l0.length : Int)) = true := decide_eq_true (by omega)
      obtain ⟨t, ht⟩ : ∃ t, l[i]? = some t := ⟨l[i]'(by omega), List.getElem?_eq_getElem (by omega)⟩
      obtain ⟨u, hu⟩ : ∃ u, l[i + 1]? = some u := ⟨l[i + 1]'(by omega), List.getElem?_eq_getElem (by omega)⟩
      have hr := HX.out.rises i t u ht hu
      have hup := HPL.out u (List.mem_of_getElem? hu)
      obtain ⟨_, _, _, e3⟩ := tok_at HC.out _ _ ht
      obtain ⟨_, _, _, f3⟩ := tok_at HC.out _ _ hu
      have hpc := HX.out.piece i t u ht hu
      have hbx : bl (s.extract t.place u.place) = ((bl s).drop t.place).take (u.place - t.place) := bl_extract _ _ _
      rw [← hbx] at hpc
      have hpt : tokensS (bl (s.extract t.place u.place)) = .inl [⟨t.tok, 0⟩, ⟨stopT, u.place - t.place⟩] := tokensS_of hpc (by rw [bl_len]; have : (s.extract t.place u.place).size = u.place - t.place := by { rw [← bl_len, hbx, List.length_take, List.length_drop, bl_len]; omega }; omega)
      have HPT := Aside0.mk hpt
      have HT := Aside0.mk ht
      have c1 : decide ((t.place : Int) < 0) = false := decide_eq_false (by omega)
      have c2 : decide ((u.place : Int) ≤ (t.place : Int)) = false := decide_eq_false (by omega)
      have c3 : decide ((s.size : Int) < (u.place : Int)) = false := decide_eq_false (by omega)
      have c4 : decide (u.place ≤ t.place) = false := decide_eq_false (by omega)
      have c5 : decide (s.size < u.place) = false := decide_eq_false (by omega)
      have hi1 : (i : Int) < (l0.length : Int) + 1 := by omega
      have hi2 : (i : Int) + 1 < (l0.length : Int) + 1 := by omega
      have hi3 : i < l0.length + 1 := by omega
      have hi4 : i + 1 < l0.length + 1 := by omega
      have hi5 : (i : Int) < (l0.length : Int) := by omega
      have hi6 : (0 : Int) ≤ (i : Int) + 1 := by omega
      have hi7 : ((i : Int) + 1).toNat = i + 1 := by omega
      have hi8 : (i : Int) + 1 ≤ (l0.length : Int) := by omega
      clear hpc hbx hpt ht hu
      go_wp2_with fail
      have hw2 : IntKind.i64.wrap ((i : Int) + 1) = (i : Int) + 1 := by rw [i64_w]; unfold wrap64; omega
      refine region_facts (ws := []) (G := fun _ w' => w'.cell? ⟨(ad.add (i * 4)).block, (ad.add (i * 4)).off + 3, none⟩ = some (.int .i64 (t.place : Int)) ∧ w'.cell? ⟨(ad.add ((i + 1) * 4)).block, (ad.add ((i + 1) * 4)).off + 3, none⟩ = some (.int .i64 (u.place : Int)) ∧ Aside0 (Below w.heap.size w w' ∧ Kd.C k42 w' (some ad) l.length (l.map tokS))) (φs := [Fact.eq ?v0, Fact.eq ?v1, Fact.eq ?v2, Fact.eq ?v3, Fact.eq ?v4, Fact.eq ?v5, Fact.eq ?v6, Fact.eq ?v7, Fact.eq ?v8, Fact.eq ?v9, Fact.eq ?v10, Fact.eq ?v11, Fact.eq ?v12, Fact.eq ?v13, Fact.eq ?v14, Fact.eq ?v15, Fact.eq ?v16, Fact.eq ?v17, Fact.eq ?v18, Fact.eq ?v19, Fact.eq ?v20, Fact.eq ?v21, Fact.eq ?v22, Fact.eq ?v23, Fact.eq ?v24, Fact.eq ?v25, Fact.eq ?v26, Fact.eq ?v27, Fact.eq ?v28, Fact.eq ?v29, Fact.eq ?v30]) (n := 31) (m := 146) (by kernel_rfl) (by kernel_rfl) rfl rfl (by kernel_rfl) (fun _ _ _ h hb => ⟨pw_cell_below hb h.1, pw_cell_below hb h.2.1, ⟨below_then h.2.2.out.1 h.2.2.out.1.size hb, Kd.C_below h.2.2.out.2 hb⟩⟩) (⟨e3, f3, ⟨below_drew HW.out, Kd.C_below HC.out (below_drew (Below.refl _ _))⟩⟩) ⟨?o0, ?o1, ?o2, ?o3, ?o4, ?o5, ?o6, ?o7, ?o8, ?o9, ?o10, ?o11, ?o12, ?o13, ?o14, ?o15, ?o16, ?o17, ?o18, ?o19, ?o20, ?o21, ?o22, ?o23, ?o24, ?o25, ?o26, ?o27, ?o28, ?o29, ?o30, trivial⟩ ?fin
      case o0 =>
        refine ask_val [.fix 4 _] rfl 72 rfl (.inl rfl) ⟨⟨by kernel_rfl, by conv => lhs; whnf⟩, trivial⟩ ?_
        dsimp only [Has, Fact.eq]
        intro e ρ w' hc hf hg hG h4
        go_simp
        with_reducible rfl
      case o1 =>
        refine ask_val [.fix 9 _] rfl 73 rfl (.inl rfl) ⟨⟨by kernel_rfl, by conv => lhs; whnf⟩, trivial⟩ ?_
        dsimp only [Has, Fact.eq]
        intro e ρ w' hc hf hg hG h9
        go_simp
        with_reducible rfl
      case o2 =>
        refine ask_val [.op 72 0 (Fact.eq _), .op 73 1 (Fact.eq _)] rfl 74 rfl (.inl rfl) ⟨⟨by kernel_rfl, rfl⟩, ⟨by kernel_rfl, rfl⟩, trivial⟩ ?_
        dsimp only [Has, Fact.eq]
        intro e ρ w' hc hf hg hG h72 h73
        go_simp
        with_reducible rfl
      case o3 =>
        refine ask_val [.op 74 2 (Fact.eq _)] rfl 75 rfl (.inl rfl) ⟨⟨by kernel_rfl, rfl⟩, trivial⟩ ?_
        dsimp only [Has, Fact.eq]
        intro e ρ w' hc hf hg hG h74
        go_simp
        with_reducible rfl
      case o4 =>
        refine ask_val [.op 75 3 (Fact.eq _)] rfl 76 rfl (.inl rfl) ⟨⟨by kernel_rfl, rfl⟩, trivial⟩ ?_
        dsimp only [Has, Fact.eq]
        intro e ρ w' hc hf hg hG h75
        obtain ⟨s0, s1, _⟩ := hG
        go_simp
        with_reducible rfl
      case o5 =>
        refine ask_val [.op 76 4 (Fact.eq _)] rfl 77 rfl (.inl rfl) ⟨⟨by kernel_rfl, rfl⟩, trivial⟩ ?_
        dsimp only [Has, Fact.eq]
        intro e ρ w' hc hf hg hG h76
        go_simp
        with_reducible rfl
      case o6 =>
        refine ask_val [.op 77 5 (Fact.eq _)] rfl 78 rfl (.inl rfl) ⟨⟨by kernel_rfl, rfl⟩, trivial⟩ ?_
        dsimp only [Has, Fact.eq]
        intro e ρ w' hc hf hg hG h77
        go_simp
        with_reducible rfl
      case o7 =>
        refine ask_val [.fix 4 _] rfl 79 rfl (.inr ⟨6, false, rfl, by kernel_rfl, rfl⟩) ⟨⟨by kernel_rfl, by conv => lhs; whnf⟩, trivial⟩ ?_
        dsimp only [Has, Fact.eq]
        intro e ρ w' hc hf hg hG h4
        go_simp
        with_reducible rfl
      case o8 =>
        refine ask_val [.fix 9 _] rfl 80 rfl (.inr ⟨6, false, rfl, by kernel_rfl, rfl⟩) ⟨⟨by kernel_rfl, by conv => lhs; whnf⟩, trivial⟩ ?_
        dsimp only [Has, Fact.eq]
        intro e ρ w' hc hf hg hG h9
        go_simp
        with_reducible rfl
      case o9 =>
        refine ask_val [.op 79 7 (Fact.eq _), .op 80 8 (Fact.eq _)] rfl 81 rfl (.inr ⟨6, false, rfl, by kernel_rfl, rfl⟩) ⟨⟨by kernel_rfl, rfl⟩, ⟨by kernel_rfl, rfl⟩, trivial⟩ ?_
        dsimp only [Has, Fact.eq]
        intro e ρ w' hc hf hg hG h79 h80
        go_simp
        with_reducible rfl
      case o10 =>
        refine ask_val [.op 81 9 (Fact.eq _)] rfl 82 rfl (.inr ⟨6, false, rfl, by kernel_rfl, rfl⟩) ⟨⟨by kernel_rfl, rfl⟩, trivial⟩ ?_
        dsimp only [Has, Fact.eq]
        intro e ρ w' hc hf hg hG h81
        go_simp
        with_reducible rfl
      case o11 =>
        refine ask_val [.op 82 10 (Fact.eq _)] rfl 83 rfl (.inr ⟨6, false, rfl, by kernel_rfl, rfl⟩) ⟨⟨by kernel_rfl, rfl⟩, trivial⟩ ?_
        dsimp only [Has, Fact.eq]
        intro e ρ w' hc hf hg hG h82
        obtain ⟨s0, s1, _⟩ := hG
        go_simp
        with_reducible rfl
      case o12 =>
        refine ask_val [.fix 4 _] rfl 84 rfl (.inr ⟨6, false, rfl, by kernel_rfl, rfl⟩) ⟨⟨by kernel_rfl, by conv => lhs; whnf⟩, trivial⟩ ?_
        dsimp only [Has, Fact.eq]
        intro e ρ w' hc hf hg hG h4
        go_simp
        with_reducible rfl
      case o13 =>
        refine ask_val [.fix 9 _] rfl 85 rfl (.inr ⟨6, false, rfl, by kernel_rfl, rfl⟩) ⟨⟨by kernel_rfl, by conv => lhs; whnf⟩, trivial⟩ ?_
        dsimp only [Has, Fact.eq]
        intro e ρ w' hc hf hg hG h9
        go_simp
        with_reducible rfl
      case o14 =>
        refine ask_val [.op 85 13 (Fact.eq _)] rfl 86 rfl (.inr ⟨6, false, rfl, by kernel_rfl, rfl⟩) ⟨⟨by kernel_rfl, rfl⟩, trivial⟩ ?_
        dsimp only [Has, Fact.eq]
        intro e ρ w' hc hf hg hG h85
        go_simp
        with_reducible rfl
      case o15 =>
        refine ask_val [.op 84 12 (Fact.eq _), .op 86 14 (Fact.eq _)] rfl 87 rfl (.inr ⟨6, false, rfl, by kernel_rfl, rfl⟩) ⟨⟨by kernel_rfl, rfl⟩, ⟨by kernel_rfl, rfl⟩, trivial⟩ ?_
        dsimp only [Has, Fact.eq]
        intro e ρ w' hc hf hg hG h84 h86
        go_simp
        with_reducible rfl
      case o16 =>
        refine ask_val [.op 87 15 (Fact.eq _)] rfl 88 rfl (.inr ⟨6, false, rfl, by kernel_rfl, rfl⟩) ⟨⟨by kernel_rfl, rfl⟩, trivial⟩ ?_
        dsimp only [Has, Fact.eq]
        intro e ρ w' hc hf hg hG h87
        go_simp
        with_reducible rfl
      case o17 =>
        refine ask_val [.op 88 16 (Fact.eq _)] rfl 89 rfl (.inr ⟨6, false, rfl, by kernel_rfl, rfl⟩) ⟨⟨by kernel_rfl, rfl⟩, trivial⟩ ?_
        dsimp only [Has, Fact.eq]
        intro e ρ w' hc hf hg hG h88
        obtain ⟨s0, s1, _⟩ := hG
        go_simp
        with_reducible rfl
      case o18 =>
        refine ask_val [.op 83 11 (Fact.eq _), .op 89 17 (Fact.eq _)] rfl 90 rfl (.inr ⟨6, false, rfl, by kernel_rfl, rfl⟩) ⟨⟨by kernel_rfl, rfl⟩, ⟨by kernel_rfl, rfl⟩, trivial⟩ ?_
        dsimp only [Has, Fact.eq]
        intro e ρ w' hc hf hg hG h83 h89
        go_simp
        with_reducible rfl
      case o19 =>
        refine ask_val [.op 78 6 (Fact.eq _), .op 90 18 (Fact.eq _)] rfl 91 rfl (.inl rfl) ⟨⟨by kernel_rfl, rfl⟩, ⟨by kernel_rfl, rfl⟩, trivial⟩ ?_
        dsimp only [Has, Fact.eq]
        intro e ρ w' hc hf hg hG h78 h90
        go_simp
        with_reducible rfl
      case o20 =>
        refine ask_val [.op 91 19 (Fact.eq _)] rfl 92 rfl (.inl rfl) ⟨⟨by kernel_rfl, rfl⟩, trivial⟩ ?_
        dsimp only [Has, Fact.eq]
        intro e ρ w' hc hf hg hG h91
        go_simp
        with_reducible rfl
      case o21 =>
        refine ask_val [.fix 4 _] rfl 93 rfl (.inr ⟨20, false, rfl, by kernel_rfl, rfl⟩) ⟨⟨by kernel_rfl, by conv => lhs; whnf⟩, trivial⟩ ?_
        dsimp only [Has, Fact.eq]
        intro e ρ w' hc hf hg hG h4
        go_simp
        with_reducible rfl
      case o22 =>
        refine ask_val [.fix 9 _] rfl 94 rfl (.inr ⟨20, false, rfl, by kernel_rfl, rfl⟩) ⟨⟨by kernel_rfl, by conv => lhs; whnf⟩, trivial⟩ ?_
        dsimp only [Has, Fact.eq]
        intro e ρ w' hc hf hg hG h9
        go_simp
        with_reducible rfl
      case o23 =>
        refine ask_val [.op 94 22 (Fact.eq _)] rfl 95 rfl (.inr ⟨20, false, rfl, by kernel_rfl, rfl⟩) ⟨⟨by kernel_rfl, rfl⟩, trivial⟩ ?_
        dsimp only [Has, Fact.eq]
        intro e ρ w' hc hf hg hG h94
        go_simp
        with_reducible rfl
      case o24 =>
        refine ask_val [.op 93 21 (Fact.eq _), .op 95 23 (Fact.eq _)] rfl 96 rfl (.inr ⟨20, false, rfl, by kernel_rfl, rfl⟩) ⟨⟨by kernel_rfl, rfl⟩, ⟨by kernel_rfl, rfl⟩, trivial⟩ ?_
        dsimp only [Has, Fact.eq]
        intro e ρ w' hc hf hg hG h93 h95
        go_simp
        with_reducible rfl
      case o25 =>
        refine ask_val [.op 96 24 (Fact.eq _)] rfl 97 rfl (.inr ⟨20, false, rfl, by kernel_rfl, rfl⟩) ⟨⟨by kernel_rfl, rfl⟩, trivial⟩ ?_
        dsimp only [Has, Fact.eq]
        intro e ρ w' hc hf hg hG h96
        go_simp
        with_reducible rfl
      case o26 =>
        refine ask_val [.op 97 25 (Fact.eq _)] rfl 98 rfl (.inr ⟨20, false, rfl, by kernel_rfl, rfl⟩) ⟨⟨by kernel_rfl, rfl⟩, trivial⟩ ?_
        dsimp only [Has, Fact.eq]
        intro e ρ w' hc hf hg hG h97
        obtain ⟨s0, s1, _⟩ := hG
        go_simp
        with_reducible rfl
      case o27 =>
        refine ask_val [.fix 0 _] rfl 99 rfl (.inr ⟨20, false, rfl, by kernel_rfl, rfl⟩) ⟨⟨by kernel_rfl, by conv => lhs; whnf⟩, trivial⟩ ?_
        dsimp only [Has, Fact.eq]
        intro e ρ w' hc hf hg hG h0
        go_simp
        with_reducible rfl
      case o28 =>
        refine ask_val [.op 99 27 (Fact.eq _)] rfl 100 rfl (.inr ⟨20, false, rfl, by kernel_rfl, rfl⟩) ⟨⟨by kernel_rfl, rfl⟩, trivial⟩ ?_
        dsimp only [Has, Fact.eq]
        intro e ρ w' hc hf hg hG h99
        go_simp
        with_reducible rfl
      case o29 =>
        refine ask_val [.op 98 26 (Fact.eq _), .op 100 28 (Fact.eq _)] rfl 101 rfl (.inr ⟨20, false, rfl, by kernel_rfl, rfl⟩) ⟨⟨by kernel_rfl, rfl⟩, ⟨by kernel_rfl, rfl⟩, trivial⟩ ?_
        dsimp only [Has, Fact.eq]
        intro e ρ w' hc hf hg hG h98 h100
        go_simp
        with_reducible rfl
      case o30 =>
        refine ask_val [.op 92 20 (Fact.eq _), .op 101 29 (Fact.eq _)] rfl 102 rfl (.inl rfl) ⟨⟨by kernel_rfl, rfl⟩, ⟨by kernel_rfl, rfl⟩, trivial⟩ ?_
        dsimp only [Has, Fact.eq]
        intro e ρ w' hc hf hg hG h92 h101
        go_simp
        with_reducible rfl
      case fin =>
        intro w' hG
        refine fin_eq (fin_eq (fin_eq (fin_eq (fin_eq (fin_eq (fin_eq (fin_eq (fin_eq (fin_eq (fin_eq (fin_eq (fin_eq (fin_eq (fin_eq (fin_eq (fin_eq (fin_eq (fin_eq (fin_eq (fin_eq (fin_eq (fin_eq (fin_eq (fin_eq (fin_eq (fin_eq (fin_eq (fin_eq (fin_eq (fin_eq (fin_nil (a' := ?_) ?_ ?_)))))))))))))))))))))))))))))))
        rotate_left
        · simp only [Act.put, List.setIfInBounds_toArray, List.set_cons_zero, List.set_cons_succ]
          rfl
        obtain ⟨e3, f3, HR⟩ := hG
        clear hw2
        go_wp2_with fail
        have hpp : t.place ≤ u.place := by omega
        have hw2 : IntKind.i64.wrap ((i : Int) + 1) = (i : Int) + 1 := by rw [i64_w]; unfold wrap64; omega
        refine region_facts (ws := [19]) (G := fun _ w' => w'.cell? ⟨(ad.add (i * 4)).block, (ad.add (i * 4)).off + 3, none⟩ = some (.int .i64 (t.place : Int)) ∧ w'.cell? ⟨(ad.add ((i + 1) * 4)).block, (ad.add ((i + 1) * 4)).off + 3, none⟩ = some (.int .i64 (u.place : Int)) ∧ Aside0 (Below w.heap.size w w' ∧ Kd.C k42 w' (some ad) l.length (l.map tokS))) (φs := [Fact.eq ?vb0, Fact.eq ?vb1, Fact.eq ?vb2, Fact.eq ?vb3, Fact.eq ?vb4, Fact.eq ?vb5, Fact.eq ?vb6, Fact.eq ?vb7, Fact.eq ?vb8, Fact.eq ?vb9, Fact.eq ?vb10, Fact.eq ?vb11, Fact.eq ?vb12, TFact [⟨t.tok, 0⟩, ⟨stopT, u.place - t.place⟩], TFact [⟨t.tok, 0⟩, ⟨stopT, u.place - t.place⟩], SFact [⟨t.tok, 0⟩, ⟨stopT, u.place - t.place⟩], Fact.eq ?vb16, BFact w.heap.size (.cells #[.int .i64 0, .int .i64 0] 25 (0, 0)), SFact [⟨t.tok, 0⟩, ⟨stopT, u.place - t.place⟩], Fact.none]) (n := 20) (m := 146) (by kernel_rfl) (by kernel_rfl) rfl rfl (by kernel_rfl) (fun _ _ _ h hb => ⟨pw_cell_below hb h.1, pw_cell_below hb h.2.1, ⟨below_then h.2.2.out.1 h.2.2.out.1.size hb, Kd.C_below h.2.2.out.2 hb⟩⟩) (⟨e3, f3, ⟨below_drew HR.out.1, Kd.C_below HR.out.2 (below_drew (Below.refl _ _))⟩⟩) ⟨?ob0, ?ob1, ?ob2, ?ob3, ?ob4, ?ob5, ?ob6, ?ob7, ?ob8, ?ob9, ?ob10, ?ob11, ?ob12, ?ob13, ?ob14, ?ob15, ?ob16, ?ob17, ?ob18, ?ob19, trivial⟩ ?finb
        case ob0 =>
          refine ask_val [.fix 0 _] rfl 104 rfl (.inl rfl) ⟨⟨by kernel_rfl, by conv => lhs; whnf⟩, trivial⟩ ?_
          dsimp only [Has, Fact.eq]
          intro e ρ w' hc hf hg hG h0
          go_simp
          with_reducible rfl
        case ob1 =>
          refine ask_val [.fix 4 _] rfl 105 rfl (.inl rfl) ⟨⟨by kernel_rfl, by conv => lhs; whnf⟩, trivial⟩ ?_
          dsimp only [Has, Fact.eq]
          intro e ρ w' hc hf hg hG h4
          go_simp
          with_reducible rfl
        case ob2 =>
          refine ask_val [.fix 9 _] rfl 106 rfl (.inl rfl) ⟨⟨by kernel_rfl, by conv => lhs; whnf⟩, trivial⟩ ?_
          dsimp only [Has, Fact.eq]
          intro e ρ w' hc hf hg hG h9
          go_simp
          with_reducible rfl
        case ob3 =>
          refine ask_val [.op 105 1 (Fact.eq _), .op 106 2 (Fact.eq _)] rfl 107 rfl (.inl rfl) ⟨⟨by kernel_rfl, rfl⟩, ⟨by kernel_rfl, rfl⟩, trivial⟩ ?_
          dsimp only [Has, Fact.eq]
          intro e ρ w' hc hf hg hG h105 h106
          go_simp
          with_reducible rfl
        case ob4 =>
          refine ask_val [.op 107 3 (Fact.eq _)] rfl 108 rfl (.inl rfl) ⟨⟨by kernel_rfl, rfl⟩, trivial⟩ ?_
          dsimp only [Has, Fact.eq]
          intro e ρ w' hc hf hg hG h107
          go_simp
          with_reducible rfl
        case ob5 =>
          refine ask_val [.op 108 4 (Fact.eq _)] rfl 109 rfl (.inl rfl) ⟨⟨by kernel_rfl, rfl⟩, trivial⟩ ?_
          dsimp only [Has, Fact.eq]
          intro e ρ w' hc hf hg hG h108
          obtain ⟨s0, s1, _⟩ := hG
          go_simp
          with_reducible rfl
        case ob6 =>
          refine ask_val [.fix 4 _] rfl 110 rfl (.inl rfl) ⟨⟨by kernel_rfl, by conv => lhs; whnf⟩, trivial⟩ ?_
          dsimp only [Has, Fact.eq]
          intro e ρ w' hc hf hg hG h4
          go_simp
          with_reducible rfl
        case ob7 =>
          refine ask_val [.fix 9 _] rfl 111 rfl (.inl rfl) ⟨⟨by kernel_rfl, by conv => lhs; whnf⟩, trivial⟩ ?_
          dsimp only [Has, Fact.eq]
          intro e ρ w' hc hf hg hG h9
          go_simp
          with_reducible rfl
        case ob8 =>
          refine ask_val [.op 111 7 (Fact.eq _)] rfl 112 rfl (.inl rfl) ⟨⟨by kernel_rfl, rfl⟩, trivial⟩ ?_
          dsimp only [Has, Fact.eq]
          intro e ρ w' hc hf hg hG h111
          go_simp
          with_reducible rfl
        case ob9 =>
          refine ask_val [.op 110 6 (Fact.eq _), .op 112 8 (Fact.eq _)] rfl 113 rfl (.inl rfl) ⟨⟨by kernel_rfl, rfl⟩, ⟨by kernel_rfl, rfl⟩, trivial⟩ ?_
          dsimp only [Has, Fact.eq]
          intro e ρ w' hc hf hg hG h110 h112
          go_simp
          with_reducible rfl
        case ob10 =>
          refine ask_val [.op 113 9 (Fact.eq _)] rfl 114 rfl (.inl rfl) ⟨⟨by kernel_rfl, rfl⟩, trivial⟩ ?_
          dsimp only [Has, Fact.eq]
          intro e ρ w' hc hf hg hG h113
          go_simp
          with_reducible rfl
        case ob11 =>
          refine ask_val [.op 114 10 (Fact.eq _)] rfl 115 rfl (.inl rfl) ⟨⟨by kernel_rfl, rfl⟩, trivial⟩ ?_
          dsimp only [Has, Fact.eq]
          intro e ρ w' hc hf hg hG h114
          obtain ⟨s0, s1, _⟩ := hG
          go_simp
          with_reducible rfl
        case ob12 =>
          refine ask_val [.op 104 0 (Fact.eq _), .op 109 5 (Fact.eq _), .op 115 11 (Fact.eq _)] rfl 116 rfl (.inl rfl) ⟨⟨by kernel_rfl, rfl⟩, ⟨by kernel_rfl, rfl⟩, ⟨by kernel_rfl, rfl⟩, trivial⟩ ?_
          dsimp only [Has, Fact.eq]
          intro e ρ w' hc hf hg hG h104 h109 h115
          go_simp
          with_reducible rfl
        case ob13 =>
          refine ask_call [.op 116 12 (Fact.eq _)] rfl 117 rfl (.inl rfl) ⟨⟨by kernel_rfl, rfl⟩, trivial⟩ 0 0 (by kernel_rfl) 11 Tryd.func11 (by kernel_rfl) rfl rfl ?_
          dsimp only [Has, Fact.eq]
          intro e ρ w' hp hq hc hf hg hG h116
          obtain rfl : e = 0 := by omega
          refine ⟨#[.string (s.extract t.place u.place)], by simp only [List.map_toArray, List.map_cons, List.map_nil, h116], tokens_list HPT.out _ _ (HE.out.below hG.2.2.out.1)⟩
        case ob14 =>
          refine ask_step [.op 117 13 _] rfl 103 rfl (.inl rfl) ⟨⟨by kernel_rfl, rfl⟩, trivial⟩ 0 0 (by kernel_rfl) ?_
          dsimp only [Has, Fact.eq]
          intro e ρ w' hp hq hc hf hg hG h117
          exact ⟨_, w', by go_simp, h117, Below.refl _ _⟩
        case ob15 =>
          refine ask_step [.op 103 14 _] rfl 118 rfl (.inl rfl) ⟨⟨by kernel_rfl, rfl⟩, trivial⟩ 0 0 (by kernel_rfl) ?_
          dsimp only [Has, Fact.eq]
          intro e ρ w' hp hq hc hf hg hG h103
          obtain ⟨A, h103, hA⟩ := h103
          exact ⟨_, w', by go_simp, ⟨A, rfl, hA⟩, Below.refl _ _⟩
        case ob16 =>
          refine ask_val [.op 103 14 _] rfl 119 rfl (.inl rfl) ⟨⟨by kernel_rfl, rfl⟩, trivial⟩ ?_
          dsimp only [Has, Fact.eq]
          intro e ρ w' hc hf hg hG h103
          obtain ⟨A, h103, hA⟩ := h103
          go_simp
          with_reducible rfl
        case ob17 =>
          refine ask_step [] rfl 11 rfl (.inl rfl) trivial 0 0 (by kernel_rfl) ?_
          dsimp only [Has, Fact.eq]
          intro e ρ w' hp hq hc hf hg hG 
          exact ⟨_, _, by go_simp, ⟨_, rfl, hG.2.2.out.1.size, blk_new _ _⟩, below_alloc (Below.refl _ _) _⟩
        case ob18 =>
          refine ask_step [.op 118 15 _] rfl 10 rfl (.inl rfl) ⟨⟨by kernel_rfl, rfl⟩, trivial⟩ 0 0 (by kernel_rfl) ?_
          dsimp only [Has, Fact.eq]
          intro e ρ w' hp hq hc hf hg hG h118
          exact ⟨_, w', by go_simp, h118, Below.refl _ _⟩
        case ob19 =>
          refine ask_store [.op 11 17 _, .op 119 16 (Fact.eq _)] rfl rfl (.inl rfl) ⟨⟨by kernel_rfl, rfl⟩, ⟨by kernel_rfl, rfl⟩, trivial⟩ 0 0 (by kernel_rfl) ?_
          dsimp only [Has, Fact.eq]
          intro e ρ w' hp hq hc hf hg hG h11 h119
          obtain ⟨g, h11, hB, hblk⟩ := h11
          have d0 := blk_cell hblk 0
          have d1 := blk_cell hblk 1
          have f0 := fun i => blk_frozen hblk i
          refine ⟨w', ?_, trivial, hG, ⟨fun _ h => h, fun _ h => h, fun _ h => h, fun _ h => h, fun _ h => h, fun _ h => h, fun _ h => h, fun _ h => h, fun _ h => h, fun _ h => h, fun _ h => h, fun _ h => h, fun _ h => h, fun _ h => h, fun _ h => h, fun _ h => h, fun _ h => h, fun _ h => h, fun _ h => h, fun _ h => h, trivial⟩⟩
          go_simp
          rw [same2 hblk]
        case finb =>
          intro w' hG
          refine fin_eq (fin_eq (fin_eq (fin_eq (fin_eq (fin_eq (fin_eq (fin_eq (fin_eq (fin_eq (fin_eq (fin_eq (fin_eq (fin_fact (fun v13 hv13 => fin_fact (fun v14 hv14 => fin_fact (fun v15 hv15 => fin_eq (fin_fact (fun v17 hv17 => fin_fact (fun v18 hv18 => fin_fact (fun v19 hv19 => fin_nil (a' := ?_) ?_ ?_))))))))))))))))))))
          rotate_left
          · simp only [Act.put, List.setIfInBounds_toArray, List.set_cons_zero, List.set_cons_succ]
            rfl
          clear hw2 hv13 hv14 hv15 hv19
          obtain ⟨A5, rfl, hC5⟩ := hv18
          obtain ⟨g5, rfl, hg5, hk5⟩ := hv17
          obtain ⟨e3, f3, HR⟩ := hG
          have d0 := blk_cell hk5 0
          have HC5 := Aside0.mk hC5
          have hl2 : ([⟨t.tok, 0⟩, ⟨stopT, u.place - t.place⟩] : List TokA).length = 2 := rfl
          rw [hl2]
          clear hC5 hk5 hl2
          obtain ⟨ad5, rfl⟩ : ∃ ad5, A5 = some ad5 := by obtain ⟨ad5, h, _⟩ := HC5.out.2.2 (by show 0 < 2; omega); exact ⟨ad5, h⟩
          obtain ⟨_, _, _, s3⟩ := tok_at HC5.out 0 ⟨t.tok, 0⟩ rfl
          rw [Nat.zero_mul, add0] at s3
          go_wp2_with fail
          have hw2 : IntKind.i64.wrap ((i : Int) + 1) = (i : Int) + 1 := by rw [i64_w]; unfold wrap64; omega
          have HYD : Aside0 (((l.map tokS).drop i).take 1 = [tokS t]) := ⟨by
            have h := List.getElem?_eq_some_iff.1 HT.out
            rw [← List.map_drop, ← List.map_take, List.drop_eq_getElem_cons h.1, h.2]; rfl⟩
          refine region_facts (ws := []) (G := fun _ w' => w'.cell? ⟨ad5.block, ad5.off + 3, none⟩ = some (.int .i64 0) ∧ w'.cell? ⟨g5, 0, none⟩ = some (.int .i64 0) ∧ Aside0 (Below w.heap.size w w' ∧ Kd.C k42 w' (some ad) l.length (l.map tokS) ∧ Kd.C k42 w' (some ad5) 2 ([⟨t.tok, 0⟩, ⟨stopT, u.place - t.place⟩].map tokS))) (φs := [Fact.eq ?vc0, Fact.eq ?vc1, Fact.eq ?vc2, Fact.eq ?vc3, Fact.eq ?vc4, Fact.eq ?vc5, Fact.eq ?vc6, Fact.eq ?vc7, Fact.eq ?vc8, Fact.eq ?vc9, Fact.eq ?vc10, Fact.eq ?vc11, Fact.eq ?vc12, Fact.eq ?vc13, Fact.eq ?vc14, Fact.eq ?vc15, Fact.eq (.bool true), Fact.eq ?vc17, Fact.eq ?vc18, Fact.eq ?vc19, Fact.eq ?vc20, Fact.eq ?vc21, Fact.eq ?vc22, Fact.eq ?vc23, Fact.eq ?vc24, Fact.eq ?vc25]) (n := 26) (m := 146) (by kernel_rfl) (by kernel_rfl) rfl rfl (by kernel_rfl) (fun _ _ _ h hb => ⟨pw_cell_below hb h.1, pw_cell_below hb h.2.1, ⟨below_then h.2.2.out.1 h.2.2.out.1.size hb, Kd.C_below h.2.2.out.2.1 hb, Kd.C_below h.2.2.out.2.2 hb⟩⟩) (⟨s3, d0, ⟨below_drew HR.out.1, Kd.C_below HR.out.2 (below_drew (Below.refl _ _)), Kd.C_below HC5.out (below_drew (Below.refl _ _))⟩⟩) ⟨?oc0, ?oc1, ?oc2, ?oc3, ?oc4, ?oc5, ?oc6, ?oc7, ?oc8, ?oc9, ?oc10, ?oc11, ?oc12, ?oc13, ?oc14, ?oc15, ?oc16, ?oc17, ?oc18, ?oc19, ?oc20, ?oc21, ?oc22, ?oc23, ?oc24, ?oc25, trivial⟩ ?finc
          case oc0 =>
            refine ask_val [.fix 11 _] rfl 120 rfl (.inl rfl) ⟨⟨by kernel_rfl, by conv => lhs; whnf⟩, trivial⟩ ?_
            dsimp only [Has, Fact.eq]
            intro e ρ w' hc hf hg hG h11
            go_simp
            with_reducible rfl
          case oc1 =>
            refine ask_val [.op 120 0 (Fact.eq _)] rfl 121 rfl (.inl rfl) ⟨⟨by kernel_rfl, rfl⟩, trivial⟩ ?_
            dsimp only [Has, Fact.eq]
            intro e ρ w' hc hf hg hG h120
            obtain ⟨s0, s1, _⟩ := hG
            go_simp
            with_reducible rfl
          case oc2 =>
            refine ask_val [.op 121 1 (Fact.eq _)] rfl 122 rfl (.inl rfl) ⟨⟨by kernel_rfl, rfl⟩, trivial⟩ ?_
            dsimp only [Has, Fact.eq]
            intro e ρ w' hc hf hg hG h121
            go_simp
            with_reducible rfl
          case oc3 =>
            refine ask_val [.op 122 2 (Fact.eq _)] rfl 123 rfl (.inl rfl) ⟨⟨by kernel_rfl, rfl⟩, trivial⟩ ?_
            dsimp only [Has, Fact.eq]
            intro e ρ w' hc hf hg hG h122
            go_simp
            with_reducible rfl
          case oc4 =>
            refine ask_val [.fix 10 _] rfl 124 rfl (.inr ⟨3, false, rfl, by kernel_rfl, rfl⟩) ⟨⟨by kernel_rfl, by conv => lhs; whnf⟩, trivial⟩ ?_
            dsimp only [Has, Fact.eq]
            intro e ρ w' hc hf hg hG h10
            go_simp
            with_reducible rfl
          case oc5 =>
            refine ask_val [.op 124 4 (Fact.eq _)] rfl 125 rfl (.inr ⟨3, false, rfl, by kernel_rfl, rfl⟩) ⟨⟨by kernel_rfl, rfl⟩, trivial⟩ ?_
            dsimp only [Has, Fact.eq]
            intro e ρ w' hc hf hg hG h124
            go_simp
            with_reducible rfl
          case oc6 =>
            refine ask_val [.op 125 5 (Fact.eq _)] rfl 126 rfl (.inr ⟨3, false, rfl, by kernel_rfl, rfl⟩) ⟨⟨by kernel_rfl, rfl⟩, trivial⟩ ?_
            dsimp only [Has, Fact.eq]
            intro e ρ w' hc hf hg hG h125
            go_simp
            with_reducible rfl
          case oc7 =>
            refine ask_val [.op 123 3 (Fact.eq _), .op 126 6 (Fact.eq _)] rfl 127 rfl (.inl rfl) ⟨⟨by kernel_rfl, rfl⟩, ⟨by kernel_rfl, rfl⟩, trivial⟩ ?_
            dsimp only [Has, Fact.eq]
            intro e ρ w' hc hf hg hG h123 h126
            go_simp
            with_reducible rfl
          case oc8 =>
            refine ask_val [.op 127 7 (Fact.eq _)] rfl 128 rfl (.inl rfl) ⟨⟨by kernel_rfl, rfl⟩, trivial⟩ ?_
            dsimp only [Has, Fact.eq]
            intro e ρ w' hc hf hg hG h127
            go_simp
            with_reducible rfl
          case oc9 =>
            refine ask_val [.fix 10 _] rfl 129 rfl (.inr ⟨8, false, rfl, by kernel_rfl, rfl⟩) ⟨⟨by kernel_rfl, by conv => lhs; whnf⟩, trivial⟩ ?_
            dsimp only [Has, Fact.eq]
            intro e ρ w' hc hf hg hG h10
            go_simp
            with_reducible rfl
          case oc10 =>
            refine ask_val [.op 129 9 (Fact.eq _)] rfl 130 rfl (.inr ⟨8, false, rfl, by kernel_rfl, rfl⟩) ⟨⟨by kernel_rfl, rfl⟩, trivial⟩ ?_
            dsimp only [Has, Fact.eq]
            intro e ρ w' hc hf hg hG h129
            go_simp
            with_reducible rfl
          case oc11 =>
            refine ask_val [.fix 4 _] rfl 131 rfl (.inr ⟨8, false, rfl, by kernel_rfl, rfl⟩) ⟨⟨by kernel_rfl, by conv => lhs; whnf⟩, trivial⟩ ?_
            dsimp only [Has, Fact.eq]
            intro e ρ w' hc hf hg hG h4
            go_simp
            with_reducible rfl
          case oc12 =>
            refine ask_val [.fix 9 _] rfl 132 rfl (.inr ⟨8, false, rfl, by kernel_rfl, rfl⟩) ⟨⟨by kernel_rfl, by conv => lhs; whnf⟩, trivial⟩ ?_
            dsimp only [Has, Fact.eq]
            intro e ρ w' hc hf hg hG h9
            go_simp
            with_reducible rfl
          case oc13 =>
            refine ask_val [.fix 9 _] rfl 133 rfl (.inr ⟨8, false, rfl, by kernel_rfl, rfl⟩) ⟨⟨by kernel_rfl, by conv => lhs; whnf⟩, trivial⟩ ?_
            dsimp only [Has, Fact.eq]
            intro e ρ w' hc hf hg hG h9
            go_simp
            with_reducible rfl
          case oc14 =>
            refine ask_val [.op 133 13 (Fact.eq _)] rfl 134 rfl (.inr ⟨8, false, rfl, by kernel_rfl, rfl⟩) ⟨⟨by kernel_rfl, rfl⟩, trivial⟩ ?_
            dsimp only [Has, Fact.eq]
            intro e ρ w' hc hf hg hG h133
            go_simp
            with_reducible rfl
          case oc15 =>
            refine ask_val [.op 131 11 (Fact.eq _), .op 132 12 (Fact.eq _), .op 134 14 (Fact.eq _)] rfl 135 rfl (.inr ⟨8, false, rfl, by kernel_rfl, rfl⟩) ⟨⟨by kernel_rfl, rfl⟩, ⟨by kernel_rfl, rfl⟩, ⟨by kernel_rfl, rfl⟩, trivial⟩ ?_
            dsimp only [Has, Fact.eq]
            intro e ρ w' hc hf hg hG h131 h132 h134
            go_simp
            with_reducible rfl
          case oc16 =>
            refine ask_call [.op 130 10 (Fact.eq _), .op 135 15 (Fact.eq _)] rfl 136 rfl (.inr ⟨8, false, rfl, by kernel_rfl, rfl⟩) ⟨⟨by kernel_rfl, rfl⟩, ⟨by kernel_rfl, rfl⟩, trivial⟩ 0 0 (by kernel_rfl) 12 Tryd.func12 (by kernel_rfl) rfl rfl ?_
            dsimp only [Has, Fact.eq]
            intro e ρ w' hp hq hc hf hg hG h130 h135
            obtain rfl : e = 0 := by omega
            have hx := Kd.C_take (m := 1) (xs := [⟨t.tok, 0⟩, ⟨stopT, u.place - t.place⟩].map tokS) hG.2.2.out.2.2 (by show 1 ≤ 2; omega)
            have hy0 := Kd.C_drop (m := i) (c := l0.length + 1) (xs := l.map tokS) (by rw [List.length_map]; exact hG.2.2.out.2.1) (by rw [List.length_map]; omega) (by rw [List.length_map]; omega)
            have hy := Kd.C_take (m := 1) hy0 (by rw [List.length_drop, List.length_map]; omega)
            rw [HYD.out] at hy
            refine ⟨#[.slice (some ad5) 1 2, .slice (if l0.length + 1 = i then some ad else some (ad.add (i * 4))) 1 (l0.length + 1 - i), .bool false], by simp only [List.map_toArray, List.map_cons, List.map_nil, h130, h135, hc], (same_calls [tokS ⟨t.tok, 0⟩] [tokS t] (some ad5) _ 2 _ false w' hx (by show 1 ≤ 2; omega) hy (by show 1 ≤ _; omega) (by show 1 ≤ _; omega)).mono ?_⟩
            rintro en w2 ⟨rfl, nd, rfl⟩
            refine ⟨_, rfl, ?_, (pw_below_drewN (Below.refl _ _) nd)⟩
            have : sameB false [tokS ⟨t.tok, 0⟩] [tokS t] = true := by simp [sameB, eqS, tokS]
            rw [this]
          case oc17 =>
            refine ask_val [.op 136 16 (Fact.eq _)] rfl 137 rfl (.inr ⟨8, false, rfl, by kernel_rfl, rfl⟩) ⟨⟨by kernel_rfl, rfl⟩, trivial⟩ ?_
            dsimp only [Has, Fact.eq]
            intro e ρ w' hc hf hg hG h136
            go_simp
            with_reducible rfl
          case oc18 =>
            refine ask_val [.op 128 8 (Fact.eq _), .op 137 17 (Fact.eq _)] rfl 138 rfl (.inl rfl) ⟨⟨by kernel_rfl, rfl⟩, ⟨by kernel_rfl, rfl⟩, trivial⟩ ?_
            dsimp only [Has, Fact.eq]
            intro e ρ w' hc hf hg hG h128 h137
            go_simp
            with_reducible rfl
          case oc19 =>
            refine ask_val [.op 138 18 (Fact.eq _)] rfl 139 rfl (.inl rfl) ⟨⟨by kernel_rfl, rfl⟩, trivial⟩ ?_
            dsimp only [Has, Fact.eq]
            intro e ρ w' hc hf hg hG h138
            go_simp
            with_reducible rfl
          case oc20 =>
            refine ask_val [.fix 10 _] rfl 140 rfl (.inr ⟨19, false, rfl, by kernel_rfl, rfl⟩) ⟨⟨by kernel_rfl, by conv => lhs; whnf⟩, trivial⟩ ?_
            dsimp only [Has, Fact.eq]
            intro e ρ w' hc hf hg hG h10
            go_simp
            with_reducible rfl
          case oc21 =>
            refine ask_val [.op 140 20 (Fact.eq _)] rfl 141 rfl (.inr ⟨19, false, rfl, by kernel_rfl, rfl⟩) ⟨⟨by kernel_rfl, rfl⟩, trivial⟩ ?_
            dsimp only [Has, Fact.eq]
            intro e ρ w' hc hf hg hG h140
            go_simp
            with_reducible rfl
          case oc22 =>
            refine ask_val [.op 141 21 (Fact.eq _)] rfl 142 rfl (.inr ⟨19, false, rfl, by kernel_rfl, rfl⟩) ⟨⟨by kernel_rfl, rfl⟩, trivial⟩ ?_
            dsimp only [Has, Fact.eq]
            intro e ρ w' hc hf hg hG h141
            go_simp
            with_reducible rfl
          case oc23 =>
            refine ask_val [.op 142 22 (Fact.eq _)] rfl 143 rfl (.inr ⟨19, false, rfl, by kernel_rfl, rfl⟩) ⟨⟨by kernel_rfl, rfl⟩, trivial⟩ ?_
            dsimp only [Has, Fact.eq]
            intro e ρ w' hc hf hg hG h142
            obtain ⟨s0, s1, _⟩ := hG
            go_simp
            with_reducible rfl
          case oc24 =>
            refine ask_val [.op 143 23 (Fact.eq _)] rfl 144 rfl (.inr ⟨19, false, rfl, by kernel_rfl, rfl⟩) ⟨⟨by kernel_rfl, rfl⟩, trivial⟩ ?_
            dsimp only [Has, Fact.eq]
            intro e ρ w' hc hf hg hG h143
            go_simp
            with_reducible rfl
          case oc25 =>
            refine ask_val [.op 139 19 (Fact.eq _), .op 144 24 (Fact.eq _)] rfl 145 rfl (.inl rfl) ⟨⟨by kernel_rfl, rfl⟩, ⟨by kernel_rfl, rfl⟩, trivial⟩ ?_
            dsimp only [Has, Fact.eq]
            intro e ρ w' hc hf hg hG h139 h144
            go_simp
            with_reducible rfl
          case finc =>
            intro w' hG
            refine fin_eq (fin_eq (fin_eq (fin_eq (fin_eq (fin_eq (fin_eq (fin_eq (fin_eq (fin_eq (fin_eq (fin_eq (fin_eq (fin_eq (fin_eq (fin_eq (fin_eq (fin_eq (fin_eq (fin_eq (fin_eq (fin_eq (fin_eq (fin_eq (fin_eq (fin_eq (fin_nil (a' := ?_) ?_ ?_))))))))))))))))))))))))))
            rotate_left
            · simp only [Act.put, List.setIfInBounds_toArray, List.set_cons_zero, List.set_cons_succ]
              rfl
            clear hw2
            obtain ⟨_, _, HR⟩ := hG
            go_wp2_with fail
            refine ⟨⟨i + 1, by go_num, by omega, ⟨HR.out.2.1⟩, ⟨HR.out.1⟩⟩, by simp [intOf]; omega⟩
    · obtain rfl : i = l0.length := by omega
      have b1 : decide ((l0.length : Int) < (l0.length : Int)) = false := decide_eq_false (by omega)
      go_wp2_with fail
      go_ret
      exact ⟨rfl, HW.out⟩
theorem pieces_law (s : ByteArray) (w : World) (E : Erg w) : Calls Tryd.prog 5 #[.string s] w fun e w' => e = .returned (.bool true) ∧ Below w.heap.size w w' := by
  cases hq : tokensS (bl s) with
  | inl l => exact pieces_good s l hq w E
  | inr a => exact pieces_bad s a hq w E
end Go.Proofs.YtjibdaigclgmhaaDoor.LexW
