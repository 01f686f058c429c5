/- The reference's All and Tokens, walked. Conditions: those that each theorem states. -/
import Derived.Test.YtjibdaigclgmhaaGreatDoorLexY
namespace Go.Proofs.YtjibdaigclgmhaaGreatDoor.LexW
open Go.RowKit Go.Maps Go.Proofs.YtjibdaigclgmhaaGreatDoor.Lex Go.Proofs.YtjibdaigclgmhaaGreatDoor.PLexPrints Go.Proofs.YtjibdaigclgmhaaGreatDoorW.PrintWords Go.Proofs.YtjibdaigclgmhaaGreatDoorW.PrintLast Go.Proofs.YtjibdaigclgmhaaGreatDoorW.PrintMore Go.Proofs.YtjibdaigclgmhaaGreatDoor.Facts
attribute [local go_sem] max2_int min2_int max_two min_two max_three min_three max_four min_four
set_option linter.unusedVariables false
set_option linter.unusedSimpArgs false
theorem tok_kind {K : List UInt8} {t : Tok} {n : Nat} (h : tok K = some (t, n)) : t.kind ≠ 0 := by
  cases K with
  | nil => cases h
  | cons c r =>
    rw [tok] at h
    by_cases h1 : isL c = true
    · rw [if_pos h1] at h
      by_cases h2 : colon ((c :: r).drop (nameLen (c :: r))) = true
      · rw [if_pos h2] at h; cases h; simp
      · rw [if_neg h2] at h; cases h; simp
    rw [if_neg h1] at h
    by_cases h2 : isD c = true
    · rw [if_pos h2] at h
      by_cases h3 : digVal ((c :: r).take (digitsLen (c :: r))) ≤ 1073741824
      · rw [if_pos h3] at h; cases h; simp
      · rw [if_neg h3] at h; cases h
    rw [if_neg h2] at h
    by_cases h3 : c = 35
    · rw [if_pos h3] at h
      by_cases h4 : r[0]? = some 40
      · rw [if_pos h4] at h; cases h; simp
      · rw [if_neg h4] at h
        by_cases h5 : 0 < symLen r
        · rw [if_pos h5] at h; cases h; simp
        · rw [if_neg h5] at h; cases h
    rw [if_neg h3] at h
    by_cases h4 : c = 39
    · rw [if_pos h4] at h
      cases hx : textOf r with
      | none => rw [hx] at h; cases h
      | some q => rw [hx] at h; cases h; show (6 : Int) ≠ 0; decide
    rw [if_neg h4] at h
    by_cases h5 : isG c = true
    · rw [if_pos h5] at h; cases h; simp
    rw [if_neg h5] at h
    by_cases h6 : c = 58 ∧ r[0]? = some 61
    · rw [if_pos h6] at h; cases h; simp
    rw [if_neg h6] at h
    by_cases h7 : markKind c = 0
    · rw [if_pos h7] at h; cases h
    · rw [if_neg h7] at h; cases h; exact h7
set_option maxHeartbeats 8000000 in
set_option maxRecDepth 100000 in
theorem all_calls (s : ByteArray) (hs : s.size ≤ 1099511627776) (w : World) : Calls Tryz.prog 35 #[.string s] w fun e w' => CutPost (lex (bl s)) w e w' := by
  obtain ⟨LX, hLX⟩ : ∃ LX, lex (bl s) = LX := ⟨_, rfl⟩
  rw [hLX]
  have hl0 : cutR ((bl s).drop 0) 0 = LX := by rw [List.drop_zero, cutR]; exact hLX
  have HL0 : Aside0 (LX = pre [] (cutR ((bl s).drop 0) 0)) := ⟨by rw [hl0]; cases LX <;> rfl⟩
  clear hLX hl0
  go_enter Tryz.func35, Tryz.ntmps35
  go_wp2_with fail
  obtain ⟨W0, hW0⟩ : ∃ W0, W0 = w.alloc (Obj.cells #[Value.int IntKind.i64 0, Value.int IntKind.i64 0] 38) := ⟨_, rfl⟩
  have hs0 : W0.heap.size = w.heap.size + 1 := by rw [hW0]; simp
  have hB0 : Below w.heap.size w W0 := by rw [hW0]; exact (Below.refl _ _).alloc (Nat.le_refl _) _
  have hF0 : W0.heap[w.heap.size]? = some (.cells #[.int .i64 0, .int .i64 0] 38 (0, 0)) := by rw [hW0]; exact blk_new w _
  rw [← hW0]
  clear hW0
  have HS0 := Aside0.mk hs0
  have HB0 := Aside0.mk hB0
  have HF0 := Aside0.mk hF0
  clear hs0 hB0 hF0
  go_loopw [4, 5] (fun v4 v5 wr => ∃ (p : Nat) (L : List TokA), v5 = .int .i64 (p : Int) ∧ p ≤ s.size ∧ Aside0 (L.length ≤ p) ∧ Aside0 (LX = pre L (cutR ((bl s).drop p) p)) ∧ Aside0 (Kd.R k28 28 wr (w.heap.size + 1) (fun _ => True) v4 (L.map tokS)) ∧ Aside0 (Below (w.heap.size + 1) W0 wr)) (fun _ v5 _ => s.size - (intOf v5).toNat)
  case atStart => exact ⟨0, [], rfl, by omega, ⟨by simp⟩, HL0, ⟨Kd.R_nil _ _ _ _ _⟩, ⟨Below.refl _ _⟩⟩
  case round =>
    clear HL0
    obtain ⟨p, L, rfl, hp, HLP, HL, HR, HW⟩ := hrel
    obtain ⟨⟨n, ok⟩, hsk⟩ : ∃ q, skip ((bl s).drop p) = q := ⟨_, rfl⟩
    have hnl := skip_le _ ((bl s).drop p) (Nat.le_refl _)
    rw [hsk, List.length_drop, bl_len] at hnl
    simp only at hnl
    have hpc := refPassed_calls s (by omega) p hp
    rw [hsk] at hpc
    have HSK := Aside0.mk hpc
    have HK := Aside0.mk hsk
    have hb2 : p + n ≤ s.size := by omega
    clear hsk hpc
    cases ok with
    | false =>
      go_wp2_with fail
      refine (HSK.out _).mono ?_
      rintro e w1 ⟨rfl, hb⟩
      have HW2 := Aside0.mk (below_then HW.out (by have := HW.out.size; rw [HS0.out] at this; exact this) hb)
      have hf := (HW2.out.block w.heap.size (Nat.lt_succ_self _)).trans HF0.out
      have HF := Aside0.mk hf
      have d0 := blk_cell hf 0
      have d1 := blk_cell hf 1
      have f0 := fun i => blk_frozen hf i
      clear hf hb
      go_wp2_with fail
      have hlx : LX = .inr (p + n) := by rw [HL.out, cutR_bad _ _ _ HK.out]; rfl
      refine cut_ret rfl w _ _ _ _ _ _ _ HF.out rfl ⟨?_, ?_⟩
      · rw [hlx]; rfl
      · exact ((HB0.out.trans (below_le HW2.out (Nat.le_succ _))).setCell (Nat.le_refl _) _).setCell (Nat.le_refl _) _
    | true =>
      go_wp2_with fail
      refine (HSK.out _).mono ?_
      rintro e w1 ⟨rfl, hb⟩
      replace HR := Aside0.mk (Kd.R_below HR.out hb)
      have HW2 := Aside0.mk (below_then HW.out (by have := HW.out.size; rw [HS0.out] at this; exact this) hb)
      clear hb
      by_cases hend : p + n = s.size
      · have heq : decide ((s.size : Int) ≤ ((p + n : Nat) : Int)) = true := decide_eq_true (by omega)
        have heq2 : decide ((s.size : Int) ≤ (p : Int) + (n : Int)) = true := decide_eq_true (by omega)
        go_wp2_with (at_builtin; refine Kd.R_append k28 (w0 := W0) (w.heap.size + 1) rfl (.tmp 24) (.tmp 28) 22 28 (.agg #[(.int .i64 0), (.string ⟨#[]⟩), (.int .i64 0), (.int .i64 0)]) 40 rfl Tryz.underlying22 info28 rfl (by decide) (by omega) _ (L.map tokS) (tokS ⟨stopT, s.size⟩) [.int .i64 18, .string (⟨#[]⟩ : ByteArray), .int .i64 0, .int .i64 (s.size : Int)] (fun _ => True) (fun _ => False) rfl rfl (by exact k28_mkM _ _ _ (tokS ⟨stopT, s.size⟩)) (fun _ hk => hk.elim) (fun _ _ => trivial) (by exact HR.out) (by exact HW2.out) (by have := HW2.out.size; rw [HS0.out] at this; exact this) (by rw [List.length_map]; have := HLP.out; omega) ?_; intro v1 w2 hr2 hb2 hg2 ha2; have HR2 := Aside0.mk hr2; have HW3 := Aside0.mk hb2; have hf := (hb2.block w.heap.size (Nat.lt_succ_self _)).trans HF0.out; have HF := Aside0.mk hf; have d0 := blk_cell hf 0; have d1 := blk_cell hf 1; have f0 := fun i => blk_frozen hf i; clear hf hr2 hb2 hg2 ha2)
        have hlx : LX = .inl (L ++ [⟨stopT, p + n⟩]) := by
          rw [HL.out, cutR_stop _ _ _ HK.out (by rw [List.drop_drop]; exact List.drop_eq_nil_of_le (by rw [bl_len]; omega))]; rfl
        refine cut_ret rfl w _ _ _ _ _ _ _ HF.out rfl ⟨?_, ?_⟩
        · rw [hlx, hend]
          refine ⟨_, rfl, R_fault (R_fault ?_ 0 _) 1 _⟩
          rw [List.map_append]
          exact HR2.out
        · exact ((HB0.out.trans (below_le HW3.out (Nat.le_succ _))).setCell (Nat.le_refl _) _).setCell (Nat.le_refl _) _
      · have heq : decide ((s.size : Int) ≤ ((p + n : Nat) : Int)) = false := decide_eq_false (by omega)
        have heq2 : decide ((s.size : Int) ≤ (p : Int) + (n : Int)) = false := decide_eq_false (by omega)
        have hlt : p + n < s.size := by omega
        have htc := token_calls s (by omega) (p + n) hlt
        cases htk : tok ((bl s).drop (p + n)) with
        | none =>
          rw [htk] at htc
          have HTC : Aside0 (∀ W, Calls Tryz.prog 56 #[.string s, .int .i64 ((p + n : Nat) : Int)] W fun e w' => e = .returned (.tuple #[.agg #[.int .i64 0, .string ⟨#[]⟩, .int .i64 0, .int .i64 0], .int .i64 ((p + n : Nat) : Int)]) ∧ Below W.heap.size W w') := ⟨htc⟩
          have HTK := Aside0.mk htk
          clear htk htc
          go_wp2_with fail
          refine (HTC.out _).mono ?_
          rintro e w3 ⟨rfl, hb⟩
          have hk := blk_new w3 (.cells #[.int .i64 0, .string ⟨#[]⟩, .int .i64 0, .int .i64 0] 28 (0, 0))
          have k0 := blk_cell hk 0
          have HW3 := Aside0.mk ((below_then HW2.out (by have := HW2.out.size; rw [HS0.out] at this; exact this) hb).alloc (by have := (below_then HW2.out (by have := HW2.out.size; rw [HS0.out] at this; exact this) hb).size; rw [HS0.out] at this; exact this) (.cells #[.int .i64 0, .string ⟨#[]⟩, .int .i64 0, .int .i64 0] 28 (0, 0)))
          have hf := (HW3.out.block w.heap.size (Nat.lt_succ_self _)).trans HF0.out
          have HF := Aside0.mk hf
          have d0 := blk_cell hf 0
          have d1 := blk_cell hf 1
          have f0 := fun i => blk_frozen hf i
          clear hf hb hk
          go_wp2_with fail
          have hlx : LX = .inr (p + n) := by rw [HL.out, cutR_none _ _ _ HK.out (by rw [List.drop_drop, drop_at s _ hlt]; simp) (by rw [List.drop_drop]; exact HTK.out)]; rfl
          refine cut_ret rfl w _ _ _ _ _ _ _ HF.out rfl ⟨?_, ?_⟩
          · rw [hlx]; rfl
          · exact ((HB0.out.trans (below_le HW3.out (Nat.le_succ _))).setCell (Nat.le_refl _) _).setCell (Nat.le_refl _) _
        | some q =>
          obtain ⟨t, k⟩ := q
          rw [htk] at htc
          have HTC : Aside0 (∀ W, Calls Tryz.prog 56 #[.string s, .int .i64 ((p + n : Nat) : Int)] W fun e w' => e = .returned (.tuple #[.agg #[.int .i64 t.kind, .string ⟨t.text.toArray⟩, .int .i64 t.num, .int .i64 ((p : Int) + (n : Int))], .int .i64 ((p : Int) + (n : Int) + (k : Int))]) ∧ Below W.heap.size W w') := ⟨htc⟩
          have HTK := Aside0.mk htk
          have hkind : (t.kind == 0) = false := beq_eq_false_iff_ne.2 (tok_kind htk)
          have hkl := tok_le _ _ _ htk
          rw [List.length_drop, bl_len] at hkl
          clear htk htc
          go_wp2_with fail
          refine (HTC.out _).mono ?_
          rintro e w3 ⟨rfl, hb⟩
          have hk := blk_new w3 (.cells #[.int .i64 t.kind, .string ⟨t.text.toArray⟩, .int .i64 t.num, .int .i64 ((p : Int) + (n : Int))] 28 (0, 0))
          have k0 := blk_cell hk 0
          have k1 := blk_cell hk 1
          have k2 := blk_cell hk 2
          have k3 := blk_cell hk 3
          replace HR := Aside0.mk (Kd.R_alloc (Kd.R_below HR.out hb) (.cells #[.int .i64 t.kind, .string ⟨t.text.toArray⟩, .int .i64 t.num, .int .i64 ((p : Int) + (n : Int))] 28 (0, 0)))
          have HW3 := Aside0.mk ((below_then HW2.out (by have := HW2.out.size; rw [HS0.out] at this; exact this) hb).alloc (by have := (below_then HW2.out (by have := HW2.out.size; rw [HS0.out] at this; exact this) hb).size; rw [HS0.out] at this; exact this) (.cells #[.int .i64 t.kind, .string ⟨t.text.toArray⟩, .int .i64 t.num, .int .i64 ((p : Int) + (n : Int))] 28 (0, 0)))
          clear hb hk
          go_wp2_with (at_builtin; refine Kd.R_append k28 (w0 := W0) (w.heap.size + 1) rfl (.tmp 42) (.tmp 44) 22 28 (.agg #[(.int .i64 0), (.string ⟨#[]⟩), (.int .i64 0), (.int .i64 0)]) 40 rfl Tryz.underlying22 info28 rfl (by decide) (by omega) _ (L.map tokS) (tokS ⟨t, p + n⟩) [.int .i64 t.kind, .string ⟨t.text.toArray⟩, .int .i64 t.num, .int .i64 ((p : Int) + (n : Int))] (fun _ => True) (fun _ => False) rfl (by rw [show (w3.alloc (Obj.cells #[Value.int IntKind.i64 t.kind, Value.string ⟨t.text.toArray⟩, Value.int IntKind.i64 t.num, Value.int IntKind.i64 ((p : Int) + (n : Int))] 28)).heap.size = w3.heap.size + 1 from by simp]; rfl) (by exact k28_mkM _ _ _ (tokS ⟨t, p + n⟩)) (fun _ hk => hk.elim) (fun _ _ => trivial) (by exact HR.out) (by exact HW3.out) (by have := HW3.out.size; rw [HS0.out] at this; exact this) (by rw [List.length_map]; have := HLP.out; omega) ?_; intro v1 w8 hr8 hb8 hg8 ha8; have HR8 := Aside0.mk hr8; have HW8 := Aside0.mk hb8; clear hr8 hb8 hg8 ha8)
          have hlx : LX = pre (L ++ [⟨t, p + n⟩]) (cutR ((bl s).drop (p + n + k)) (p + n + k)) := by
            rw [HL.out, cutR_some _ _ _ _ _ HK.out (by rw [List.drop_drop]; exact HTK.out), pre_pre, List.drop_drop, Nat.add_assoc]
          refine ⟨⟨p + n + k, L ++ [(⟨t, p + n⟩ : TokA)], by first | rfl | go_num, by omega, ⟨by rw [List.length_append]; have := HLP.out; simp; omega⟩, ⟨hlx⟩, ⟨by rw [List.map_append]; exact HR8.out⟩, HW8⟩, by simp [intOf]; omega⟩
end Go.Proofs.YtjibdaigclgmhaaGreatDoor.LexW
