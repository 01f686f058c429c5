/- LexGaps, walked: the law answers true for every input. Conditions: those that each theorem states. -/
import Derived.Test.YtjibdaigclgmhaaDoorLexP
import Derived.Test.YtjibdaigclgmhaaDoorLexQ
import Derived.Lib.LazyBuf
namespace Go.Proofs.YtjibdaigclgmhaaDoor.LexW
open Go.RowKit Go.Maps Go.Proofs.YtjibdaigclgmhaaDoor.Lex Go.Proofs.YtjibdaigclgmhaaDoor.PLexTokens Go.Proofs.YtjibdaigclgmhaaDoorW.PrintWords Go.Proofs.YtjibdaigclgmhaaDoorW.PrintLast Go.Proofs.YtjibdaigclgmhaaDoorW.PrintMore Go.Proofs.YtjibdaigclgmhaaDoor.Facts
attribute [local go_sem] max2_int min2_int max_two min_two max_three min_three max_four min_four
set_option linter.unusedVariables false
set_option linter.unusedSimpArgs false
theorem bt_get (s : ByteArray) (i : Nat) (h : i < s.size) : bt s (i : Int) = ((s[i]'h).toNat : Int) := by
  unfold bt
  rw [dif_pos (show ((i : Int)).toNat < s.size by omega)]
  simp
theorem comment_l0 (s : ByteArray) (hs : s.size ≤ 140737488351232) : ∀ (k i : Nat) (c : List UInt8), i ≤ s.size → s.size - i < k → c.length ≤ i → (34 : UInt8) ∉ c →
    ∃ b : List UInt8, (34 : UInt8) ∉ b ∧ b.length ≤ s.size ∧ PLexGaps.kilnlaw7_comment.l0 k s (c.map fun u => (u.toNat : Int)) (i : Int) = some ⟨(34 :: b ++ [34]).toArray⟩ := by
  intro k
  induction k with
  | zero => intro i c h1 h2; omega
  | succ k ih =>
    intro i c hi hk hc hn
    rw [PLexGaps.kilnlaw7_comment.l0]
    by_cases hlt : i < s.size
    · have hw : wrap64 ((i : Int) + 1) = ((i + 1 : Nat) : Int) := by unfold wrap64; omega
      rw [if_pos (by omega), if_pos (by omega), bt_get s i hlt, hw]
      by_cases h34 : ((s[i]'hlt).toNat : Int) = 34
      · rw [if_pos h34]
        exact ih (i + 1) c (by omega) (by omega) (by omega) hn
      · rw [if_neg h34, if_pos (by rw [List.length_map]; omega)]
        have := ih (i + 1) (c ++ [s[i]'hlt]) (by omega) (by omega) (by simp; omega) (by
          intro h
          rcases List.mem_append.1 h with h | h
          · exact hn h
          · rw [List.mem_singleton] at h; rw [← h] at h34; exact h34 rfl)
        rw [List.map_append] at this
        exact this
    · have hsz : (strOfNums (c.map fun u => (u.toNat : Int))).size = c.length := by rw [Go.Lib.Lz.strOfNums_map]; simp [ByteArray.size]
      rw [if_neg (by omega), if_pos (by rw [hsz]; omega), if_pos (by rw [ByteArray.size_append, hsz]; simp [ByteArray.size]; omega)]
      refine ⟨c, hn, by omega, ?_⟩
      rw [Go.Lib.Lz.strOfNums_map]
      congr 1
theorem comment_plain (s : ByteArray) (hs : s.size ≤ 140737488351232) (b : Bool) : ∃ k g, PLexGaps.kilnlaw7_comment.f k s b = some g ∧ Gap (bl g) ∧ bl g ≠ [] ∧ g.size ≤ 140737488351242 := by
  cases b with
  | true =>
    refine ⟨0, _, by unfold PLexGaps.kilnlaw7_comment.f; rw [if_pos rfl], ?_, by decide, by decide⟩
    show Gap [32, 9, 10, 13, 32]
    exact .blank _ _ rfl (.blank _ _ rfl (.blank _ _ rfl (.blank _ _ rfl (.blank _ _ rfl .nil))))
  | false =>
    obtain ⟨b, hb, hbl, h⟩ := comment_l0 s hs (s.size + 1) 0 [] (Nat.zero_le _) (by omega) (by simp) (by simp)
    refine ⟨s.size + 1, _, by unfold PLexGaps.kilnlaw7_comment.f; rw [if_neg (by simp)]; exact h, ?_, by simp [bl], by simp [ByteArray.size]; omega⟩
    show Gap (34 :: b ++ [34])
    exact .com b [] hb .nil
theorem comment_calls (s : ByteArray) (hs : s.size ≤ 140737488351232) (b : Bool) : ∃ g : ByteArray, Gap (bl g) ∧ bl g ≠ [] ∧ (∀ w, Calls Tryd.prog 22 #[.string s, .bool b] w fun e w' => e = .returned (.string g) ∧ Below w.heap.size w w') ∧ g.size ≤ 140737488351242 := by
  obtain ⟨k, g, h, hg, hn, hz⟩ := comment_plain s hs b
  exact ⟨g, hg, hn, fun w => PLexGaps.kilnlaw7_comment.calls k s b g w h, hz⟩
set_option maxHeartbeats 4000000 in
set_option maxRecDepth 1000000 in
theorem gaps_bad (s wd : ByteArray) (a : Int) (b : Bool) (x : Int × Nat) (hq : tokensS (bl s) = .inr x) (w : World) (E : Erg w) : Calls Tryd.prog 6 #[.string s, .int .i64 a, .string wd, .bool b] w fun e w' => e = .returned (.bool true) ∧ Below w.heap.size w w' := by
  have hne : (x.1 != 0) = true := by rcases tokensS_inr hq with h | h <;> rw [h] <;> rfl
  have HE := Aside0.mk E
  have HQ := Aside0.mk hq
  clear E hq
  go_enter Tryd.func6, Tryd.ntmps6
  go_wp2_with fail
  refine (known_calls _ HE.out).mono ?_
  rintro e w1 ⟨rfl, hb⟩
  have HW1 := Aside0.mk hb
  clear hb
  go_wp2_with fail
  refine (tokens_fault HQ.out _ (HE.out.below HW1.out)).mono ?_
  rintro e w2 ⟨rfl, hb⟩
  have hk := blk_new w2 (.cells #[.int .i64 x.1, .int .i64 (x.2 : Int)] 25 (0, 0))
  have d0 := blk_cell hk 0
  have HW2 := Aside0.mk (below_then HW1.out HW1.out.size hb)
  clear hb hk
  go_wp2_with fail
  go_ret
  exact ⟨rfl, HW2.out.alloc HW2.out.size _⟩
theorem tm (a : Int) (n : Nat) (h : 0 < n) : -(n : Int) < a.tmod n ∧ a.tmod n < n := by
  constructor
  · rcases Int.le_total 0 a with h1 | h1
    · have := Int.tmod_nonneg (n : Int) h1; omega
    · have h2 := Int.tmod_lt_of_pos (-a) (b := (n : Int)) (by omega)
      rw [Int.neg_tmod] at h2; omega
  · exact Int.tmod_lt_of_pos a (by omega)
theorem Lexes.toksG {l : List TokA} (k d : Nat) : (l.take k ++ (l.drop k).map (TokA.shift d)).map TokA.tok = l.map TokA.tok := by
  rw [List.map_append, List.map_map]
  rw [show (TokA.tok ∘ TokA.shift d) = TokA.tok from rfl, ← List.map_append, List.take_append_drop]
theorem gap_at {l : List TokA} (k d i : Nat) (t : TokA) (ht : l[i]? = some t) : (l.take k ++ (l.drop k).map (TokA.shift d))[i]? = some ⟨t.tok, if k ≤ i then t.place + d else t.place⟩ := by
  have hi := (List.getElem?_eq_some_iff.1 ht).1
  by_cases h : k ≤ i
  · rw [List.getElem?_append_right (by rw [List.length_take]; omega), List.length_take, Nat.min_eq_left (by omega), List.getElem?_map, List.getElem?_drop, show k + (i - k) = i by omega, ht, if_pos h]; rfl
  · rw [List.getElem?_append_left (by rw [List.length_take]; omega), List.getElem?_take, if_pos (by omega), ht, if_neg h]
set_option maxHeartbeats 4000000 in
set_option maxRecDepth 1000000 in
theorem gaps_long (s wd : ByteArray) (a : Int) (b : Bool) (l : List TokA) (hq : tokensS (bl s) = .inl l) (gp : ByteArray) (hgap : Gap (bl gp)) (hgne : bl gp ≠ []) (hcom : ∀ w, Calls Tryd.prog 22 #[.string wd, .bool b] w fun e w' => e = .returned (.string gp) ∧ Below w.heap.size w w') (hlong : 4096 < s.size + gp.size) (hgm : gp.size ≤ 140737488351242) (w : World) (E : Erg w) : Calls Tryd.prog 6 #[.string s, .int .i64 a, .string wd, .bool b] w fun e w' => e = .returned (.bool true) ∧ Below w.heap.size w w' := by
  obtain ⟨hx, hs⟩ := tokensS_inl hq
  rw [bl_len] at hs
  have hl0 : 0 < l.length := List.length_pos_iff.2 hx.ne_nil
  have hll : l.length ≤ s.size + 1 := by have := Lexes_len hx; rw [bl_len] at this; exact this
  have b1 : ((l.length : Int) == 0) = false := by rw [beq_eq_false_iff_ne]; omega
  have hgsz : 0 < gp.size := by rw [← bl_len]; exact List.length_pos_iff.2 hgne
  have HE := Aside0.mk E
  have HQ := Aside0.mk hq
  have HX := Aside0.mk hx
  have HG := Aside0.mk hgap
  have HGN := Aside0.mk hgne
  have HCOM := Aside0.mk hcom
  clear E hq hx hgap hgne hcom
  go_enter Tryd.func6, Tryd.ntmps6
  go_wp2_with fail
  refine (known_calls _ HE.out).mono ?_
  rintro e w1 ⟨rfl, hb⟩
  have HW1 := Aside0.mk hb
  clear hb
  go_wp2_with fail
  refine (tokens_list HQ.out 0 _ (HE.out.below HW1.out)).mono ?_
  rintro e w2 ⟨_, rfl, ⟨A, rfl, hC⟩, hb⟩
  obtain ⟨ad, rfl⟩ : ∃ ad, A = some ad := by obtain ⟨x, h, _⟩ := hC.2.2 hl0; exact ⟨x, h⟩
  have hk := blk_new w2 (.cells #[.int .i64 0, .int .i64 0] 25 (0, 0))
  have d0 := blk_cell hk 0
  have HR : Aside0 (Below w.heap.size w (w2.alloc (.cells #[.int .i64 0, .int .i64 0] 25 (0, 0))) ∧ Kd.C k42 (w2.alloc (.cells #[.int .i64 0, .int .i64 0] 25 (0, 0))) (some ad) l.length (l.map tokS)) := ⟨(below_then HW1.out HW1.out.size hb).alloc (by exact (below_then HW1.out HW1.out.size hb).size) _, Kd.C_below hC (below_alloc (Below.refl _ _) _)⟩
  clear hb hk hC
  have htm := tm a l.length hl0
  obtain ⟨kk, hkk, hk1, hk2⟩ : ∃ kk : Nat, kk < l.length ∧ (a.tmod (l.length : Int) < 0 → wrap64 (a.tmod (l.length : Int) + (l.length : Int)) = (kk : Int)) ∧ (0 ≤ a.tmod (l.length : Int) → a.tmod (l.length : Int) = (kk : Int)) := by
    by_cases h : a.tmod (l.length : Int) < 0
    · exact ⟨(a.tmod (l.length : Int) + l.length).toNat, by omega, fun _ => by unfold wrap64; omega, fun h2 => by omega⟩
    · exact ⟨(a.tmod (l.length : Int)).toNat, by omega, fun h2 => absurd h2 h, fun _ => by omega⟩
  obtain ⟨t, ht⟩ : ∃ t, l[kk]? = some t := ⟨l[kk]'hkk, List.getElem?_eq_getElem hkk⟩
  have hpl : t.place ≤ s.size := by obtain ⟨p, h1, h2, _⟩ := HX.out.place t (List.mem_of_getElem? ht); rw [bl_len] at h2; omega
  obtain ⟨_, _, _, e3⟩ := tok_at HR.out.2 _ _ ht
  have HT := Aside0.mk ht
  have hki : (kk : Int) < (l.length : Int) := by omega
  have c1 : decide ((t.place : Int) < 0) = false := decide_eq_false (by omega)
  have c2 : decide ((s.size : Int) < (t.place : Int)) = false := decide_eq_false (by omega)
  clear ht htm
  have b3 : decide ((4096 : Int) < (s.size : Int) + (gp.size : Int)) = true := decide_eq_true (by omega)
  rcases (show a.tmod (l.length : Int) < 0 ∨ 0 ≤ a.tmod (l.length : Int) by omega) with hneg | hneg
  · have h1 := hk1 hneg
    have b2 : decide (a.tmod (l.length : Int) < 0) = true := decide_eq_true hneg
    clear hk1 hk2 hneg
    go_wp2_with (go_at_call 22; refine (HCOM.out _).mono ?_; rintro e w3 ⟨rfl, hb⟩; have HB := Aside0.mk hb; clear hb)
    go_ret
    exact ⟨rfl, below_then HR.out.1 HR.out.1.size HB.out⟩
  · have h1 := hk2 hneg
    clear hk1 hk2 hneg
    go_wp2_with (go_at_call 22; refine (HCOM.out _).mono ?_; rintro e w3 ⟨rfl, hb⟩; have HB := Aside0.mk hb; clear hb)
    go_ret
    exact ⟨rfl, below_then HR.out.1 HR.out.1.size HB.out⟩
set_option maxHeartbeats 4000000 in
set_option maxRecDepth 1000000 in
theorem gaps_short (s wd : ByteArray) (a : Int) (b : Bool) (l : List TokA) (hq : tokensS (bl s) = .inl l) (gp : ByteArray) (hgap : Gap (bl gp)) (hgne : bl gp ≠ []) (hcom : ∀ w, Calls Tryd.prog 22 #[.string wd, .bool b] w fun e w' => e = .returned (.string gp) ∧ Below w.heap.size w w') (hlong : s.size + gp.size ≤ 4096) (w : World) (E : Erg w) : Calls Tryd.prog 6 #[.string s, .int .i64 a, .string wd, .bool b] w fun e w' => e = .returned (.bool true) ∧ Below w.heap.size w w' := by
  obtain ⟨hx, hs⟩ := tokensS_inl hq
  rw [bl_len] at hs
  have hl0 : 0 < l.length := List.length_pos_iff.2 hx.ne_nil
  have hll : l.length ≤ s.size + 1 := by have := Lexes_len hx; rw [bl_len] at this; exact this
  have b1 : ((l.length : Int) == 0) = false := by rw [beq_eq_false_iff_ne]; omega
  have hgsz : 0 < gp.size := by rw [← bl_len]; exact List.length_pos_iff.2 hgne
  have HE := Aside0.mk E
  have HQ := Aside0.mk hq
  have HX := Aside0.mk hx
  have HG := Aside0.mk hgap
  have HGN := Aside0.mk hgne
  have HCOM := Aside0.mk hcom
  clear E hq hx hgap hgne hcom
  go_enter Tryd.func6, Tryd.ntmps6
  go_wp2_with fail
  refine (known_calls _ HE.out).mono ?_
  rintro e w1 ⟨rfl, hb⟩
  have HW1 := Aside0.mk hb
  clear hb
  go_wp2_with fail
  refine (tokens_list HQ.out 0 _ (HE.out.below HW1.out)).mono ?_
  rintro e w2 ⟨_, rfl, ⟨A, rfl, hC⟩, hb⟩
  obtain ⟨ad, rfl⟩ : ∃ ad, A = some ad := by obtain ⟨x, h, _⟩ := hC.2.2 hl0; exact ⟨x, h⟩
  have hk := blk_new w2 (.cells #[.int .i64 0, .int .i64 0] 25 (0, 0))
  have d0 := blk_cell hk 0
  have HR : Aside0 (Below w.heap.size w (w2.alloc (.cells #[.int .i64 0, .int .i64 0] 25 (0, 0))) ∧ Kd.C k42 (w2.alloc (.cells #[.int .i64 0, .int .i64 0] 25 (0, 0))) (some ad) l.length (l.map tokS)) := ⟨(below_then HW1.out HW1.out.size hb).alloc (by exact (below_then HW1.out HW1.out.size hb).size) _, Kd.C_below hC (below_alloc (Below.refl _ _) _)⟩
  clear hb hk hC
  have htm := tm a l.length hl0
  obtain ⟨kk, hkk, hk1, hk2⟩ : ∃ kk : Nat, kk < l.length ∧ (a.tmod (l.length : Int) < 0 → wrap64 (a.tmod (l.length : Int) + (l.length : Int)) = (kk : Int)) ∧ (0 ≤ a.tmod (l.length : Int) → a.tmod (l.length : Int) = (kk : Int)) := by
    by_cases h : a.tmod (l.length : Int) < 0
    · exact ⟨(a.tmod (l.length : Int) + l.length).toNat, by omega, fun _ => by unfold wrap64; omega, fun h2 => by omega⟩
    · exact ⟨(a.tmod (l.length : Int)).toNat, by omega, fun h2 => absurd h2 h, fun _ => by omega⟩
  obtain ⟨t, ht⟩ : ∃ t, l[kk]? = some t := ⟨l[kk]'hkk, List.getElem?_eq_getElem hkk⟩
  have hpl : t.place ≤ s.size := by obtain ⟨p, h1, h2, _⟩ := HX.out.place t (List.mem_of_getElem? ht); rw [bl_len] at h2; omega
  obtain ⟨_, _, _, e3⟩ := tok_at HR.out.2 _ _ ht
  have HT := Aside0.mk ht
  have hki : (kk : Int) < (l.length : Int) := by omega
  have c1 : decide ((t.place : Int) < 0) = false := decide_eq_false (by omega)
  have c2 : decide ((s.size : Int) < (t.place : Int)) = false := decide_eq_false (by omega)
  clear ht htm
  have b3 : decide ((4096 : Int) < (s.size : Int) + (gp.size : Int)) = false := decide_eq_false (by omega)
  obtain ⟨M, hM⟩ : ∃ M, M = l.take kk ++ (l.drop kk).map (TokA.shift (bl gp).length) := ⟨_, rfl⟩
  have hbx : bl (s.extract 0 t.place ++ gp ++ s.extract t.place s.size) = (bl s).take t.place ++ (bl gp ++ (bl s).drop t.place) := by
    have h1 : bl (s.extract 0 t.place) = (bl s).take t.place := by rw [bl_extract]; simp
    have h2 := bl_from s t.place
    rw [← h1, ← h2]; simp [bl]
  have HMT : Aside0 (tokensS (bl (s.extract 0 t.place ++ gp ++ s.extract t.place s.size)) = .inl M) := ⟨by
    rw [hbx, hM]
    refine tokensS_of (HX.out.gapped HG.out HGN.out kk t HT.out) ?_
    rw [List.length_append, List.length_append, List.length_take, List.length_drop, bl_len, bl_len]; omega⟩
  have HML : Aside0 (M.length = l.length) := ⟨by rw [hM, List.length_append, List.length_take, List.length_map, List.length_drop]; omega⟩
  have HMS : Aside0 (sameB false (M.map tokS) (l.map tokS) = true) := ⟨by rw [hM]; exact sameB_toks _ _ (Lexes.toksG kk _)⟩
  have HMA : Aside0 (∀ (i : Nat) (u : TokA), l[i]? = some u → M[i]? = some (⟨u.tok, if kk ≤ i then u.place + gp.size else u.place⟩ : TokA)) := ⟨fun i u h => by rw [hM, gap_at kk _ i u h, bl_len gp]⟩
  clear hM hbx
  have g1 : ¬ (9223372036854775807 < t.place + gp.size) := by omega
  have g2 : ¬ (9223372036854775807 < t.place + gp.size + (s.size - t.place)) := by omega
  rcases (show a.tmod (l.length : Int) < 0 ∨ 0 ≤ a.tmod (l.length : Int) by omega) with hneg | hneg
  · have h1 := hk1 hneg
    have b2 : decide (a.tmod (l.length : Int) < 0) = true := decide_eq_true hneg
    clear hk1 hk2 hneg
    go_wp2_with (go_at_call 22; refine (HCOM.out _).mono ?_; rintro e w3 ⟨rfl, hb⟩; replace HR := Aside0.mk (And.intro (below_then HR.out.1 HR.out.1.size hb) (Kd.C_below HR.out.2 hb)); clear hb d0 e3)
    refine region_facts (ws := [15]) (G := fun _ w' => Aside0 (Below w.heap.size w w' ∧ Kd.C k42 w' (some ad) (l.length) (l.map tokS))) (φs := [Fact.eq ?va0, Fact.eq ?va1, Fact.eq ?va2, Fact.eq ?va3, Fact.eq ?va4, Fact.eq ?va5, Fact.eq ?va6, Fact.eq ?va7, Fact.eq ?va8, TFact M, TFact M, SFact M, Fact.eq ?va12, BFact w.heap.size (.cells #[.int .i64 0, .int .i64 0] 25 (0, 0)), SFact M, Fact.none]) (n := 16) (m := 122) (by kernel_rfl) (by kernel_rfl) rfl rfl (by kernel_rfl) (fun _ _ _ h hb => ⟨⟨below_then h.out.1 h.out.1.size hb, Kd.C_below h.out.2 hb⟩⟩) (⟨⟨below_drew HR.out.1, Kd.C_below HR.out.2 (below_drew (Below.refl _ _))⟩⟩) ⟨?oa0, ?oa1, ?oa2, ?oa3, ?oa4, ?oa5, ?oa6, ?oa7, ?oa8, ?oa9, ?oa10, ?oa11, ?oa12, ?oa13, ?oa14, ?oa15, trivial⟩ ?fina
    case oa0 =>
      refine ask_val [.fix 0 _] rfl 76 rfl (.inl rfl) ⟨⟨by kernel_rfl, by conv => lhs; whnf⟩, trivial⟩ ?_
      dsimp only [Has, Fact.eq]
      intro e ρ w' hc hf hg hG h0
      go_simp
      with_reducible rfl
    case oa1 =>
      refine ask_val [.fix 13 _] rfl 77 rfl (.inl rfl) ⟨⟨by kernel_rfl, by conv => lhs; whnf⟩, trivial⟩ ?_
      dsimp only [Has, Fact.eq]
      intro e ρ w' hc hf hg hG h13
      go_simp
      with_reducible rfl
    case oa2 =>
      refine ask_val [.op 76 0 (Fact.eq _), .op 77 1 (Fact.eq _)] rfl 78 rfl (.inl rfl) ⟨⟨by kernel_rfl, rfl⟩, ⟨by kernel_rfl, rfl⟩, trivial⟩ ?_
      dsimp only [Has, Fact.eq]
      intro e ρ w' hc hf hg hG h76 h77
      go_simp
      with_reducible rfl
    case oa3 =>
      refine ask_val [.fix 14 _] rfl 79 rfl (.inl rfl) ⟨⟨by kernel_rfl, by conv => lhs; whnf⟩, trivial⟩ ?_
      dsimp only [Has, Fact.eq]
      intro e ρ w' hc hf hg hG h14
      go_simp
      with_reducible rfl
    case oa4 =>
      refine ask_val [.op 78 2 (Fact.eq _), .op 79 3 (Fact.eq _)] rfl 80 rfl (.inl rfl) ⟨⟨by kernel_rfl, rfl⟩, ⟨by kernel_rfl, rfl⟩, trivial⟩ ?_
      dsimp only [Has, Fact.eq]
      intro e ρ w' hc hf hg hG h78 h79
      go_simp
      with_reducible rfl
    case oa5 =>
      refine ask_val [.fix 0 _] rfl 81 rfl (.inl rfl) ⟨⟨by kernel_rfl, by conv => lhs; whnf⟩, trivial⟩ ?_
      dsimp only [Has, Fact.eq]
      intro e ρ w' hc hf hg hG h0
      go_simp
      with_reducible rfl
    case oa6 =>
      refine ask_val [.fix 13 _] rfl 82 rfl (.inl rfl) ⟨⟨by kernel_rfl, by conv => lhs; whnf⟩, trivial⟩ ?_
      dsimp only [Has, Fact.eq]
      intro e ρ w' hc hf hg hG h13
      go_simp
      with_reducible rfl
    case oa7 =>
      refine ask_val [.op 81 5 (Fact.eq _), .op 82 6 (Fact.eq _)] rfl 83 rfl (.inl rfl) ⟨⟨by kernel_rfl, rfl⟩, ⟨by kernel_rfl, rfl⟩, trivial⟩ ?_
      dsimp only [Has, Fact.eq]
      intro e ρ w' hc hf hg hG h81 h82
      go_simp
      with_reducible rfl
    case oa8 =>
      refine ask_val [.op 80 4 (Fact.eq _), .op 83 7 (Fact.eq _)] rfl 84 rfl (.inl rfl) ⟨⟨by kernel_rfl, rfl⟩, ⟨by kernel_rfl, rfl⟩, trivial⟩ ?_
      dsimp only [Has, Fact.eq]
      intro e ρ w' hc hf hg hG h80 h83
      go_simp
      with_reducible rfl
    case oa9 =>
      refine ask_call [.op 84 8 (Fact.eq _)] rfl 85 rfl (.inl rfl) ⟨⟨by kernel_rfl, rfl⟩, trivial⟩ 0 0 (by kernel_rfl) 11 Tryd.func11 (by kernel_rfl) rfl rfl ?_
      dsimp only [Has, Fact.eq]
      intro e ρ w' hp hq hc hf hg hG h84
      obtain rfl : e = 0 := by omega
      refine ⟨#[.string (s.extract 0 t.place ++ gp ++ s.extract t.place s.size)], by simp only [List.map_toArray, List.map_cons, List.map_nil, h84], tokens_list HMT.out _ _ (HE.out.below hG.out.1)⟩
    case oa10 =>
      refine ask_step [.op 85 9 _] rfl 75 rfl (.inl rfl) ⟨⟨by kernel_rfl, rfl⟩, trivial⟩ 0 0 (by kernel_rfl) ?_
      dsimp only [Has, Fact.eq]
      intro e ρ w' hp hq hc hf hg hG h85
      exact ⟨_, w', by go_simp, h85, Below.refl _ _⟩
    case oa11 =>
      refine ask_step [.op 75 10 _] rfl 86 rfl (.inl rfl) ⟨⟨by kernel_rfl, rfl⟩, trivial⟩ 0 0 (by kernel_rfl) ?_
      dsimp only [Has, Fact.eq]
      intro e ρ w' hp hq hc hf hg hG h75
      obtain ⟨A, h75, hA⟩ := h75
      exact ⟨_, w', by go_simp, ⟨A, rfl, hA⟩, Below.refl _ _⟩
    case oa12 =>
      refine ask_val [.op 75 10 _] rfl 87 rfl (.inl rfl) ⟨⟨by kernel_rfl, rfl⟩, trivial⟩ ?_
      dsimp only [Has, Fact.eq]
      intro e ρ w' hc hf hg hG h75
      obtain ⟨A, h75, hA⟩ := h75
      go_simp
      with_reducible rfl
    case oa13 =>
      refine ask_step [] rfl 16 rfl (.inl rfl) trivial 0 0 (by kernel_rfl) ?_
      dsimp only [Has, Fact.eq]
      intro e ρ w' hp hq hc hf hg hG 
      exact ⟨_, _, by go_simp, ⟨_, rfl, hG.out.1.size, blk_new _ _⟩, below_alloc (Below.refl _ _) _⟩
    case oa14 =>
      refine ask_step [.op 86 11 _] rfl 15 rfl (.inl rfl) ⟨⟨by kernel_rfl, rfl⟩, trivial⟩ 0 0 (by kernel_rfl) ?_
      dsimp only [Has, Fact.eq]
      intro e ρ w' hp hq hc hf hg hG h86
      exact ⟨_, w', by go_simp, h86, Below.refl _ _⟩
    case oa15 =>
      refine ask_store [.op 16 13 _, .op 87 12 (Fact.eq _)] rfl rfl (.inl rfl) ⟨⟨by kernel_rfl, rfl⟩, ⟨by kernel_rfl, rfl⟩, trivial⟩ 0 0 (by kernel_rfl) ?_
      dsimp only [Has, Fact.eq]
      intro e ρ w' hp hq hc hf hg hG h16 h87
      obtain ⟨g, h16, hB, hblk⟩ := h16
      have d0 := blk_cell hblk 0
      have d1 := blk_cell hblk 1
      have f0 := fun i => blk_frozen hblk i
      refine ⟨w', ?_, trivial, hG, ⟨fun _ h => h, fun _ h => h, fun _ h => h, fun _ h => h, fun _ h => h, fun _ h => h, fun _ h => h, fun _ h => h, fun _ h => h, fun _ h => h, fun _ h => h, fun _ h => h, fun _ h => h, fun _ h => h, fun _ h => h, fun _ h => h, trivial⟩⟩
      go_simp
      rw [same2 hblk]
    case fina =>
      intro w' hG
      refine fin_eq (fin_eq (fin_eq (fin_eq (fin_eq (fin_eq (fin_eq (fin_eq (fin_eq (fin_fact (fun v9 hv9 => fin_fact (fun v10 hv10 => fin_fact (fun v11 hv11 => fin_eq (fin_fact (fun v13 hv13 => fin_fact (fun v14 hv14 => fin_fact (fun v15 hv15 => fin_nil (a' := ?_) ?_ ?_))))))))))))))))
      rotate_left
      · simp only [Act.put, List.setIfInBounds_toArray, List.set_cons_zero, List.set_cons_succ]
        rfl
      clear hv9 hv10 hv11 hv15
      obtain ⟨A5, rfl, hC5⟩ := hv14
      obtain ⟨g5, rfl, hg5, hk5⟩ := hv13
      obtain ⟨ad5, rfl⟩ : ∃ ad5, A5 = some ad5 := by obtain ⟨x, h, _⟩ := hC5.2.2 (by rw [HML.out]; exact hl0); exact ⟨x, h⟩
      have d0 := blk_cell hk5 0
      have hs12 := same_calls (M.map tokS) (l.map tokS) (some ad5) (some ad) M.length l.length false w' (by rw [List.length_map]; exact hC5) (by rw [List.length_map]; exact Nat.le_refl _) (by rw [List.length_map]; exact hG.out.2) (by rw [List.length_map]; exact Nat.le_refl _) (by rw [List.length_map, HML.out]; omega)
      rw [HMS.out, List.length_map, List.length_map] at hs12
      rw [HML.out] at hC5 hs12 ⊢
      have HR5 : Aside0 (Below w.heap.size w w' ∧ Kd.C k42 w' (some ad) l.length (l.map tokS) ∧ Kd.C k42 w' (some ad5) l.length (M.map tokS)) := ⟨hG.out.1, hG.out.2, hC5⟩
      have H12 := Aside0.mk hs12
      clear hs12 hC5 hk5 hG g1 g2
      go_wp2_with (go_at_call 12; refine H12.out.mono ?_; rintro e w4 ⟨rfl, nd, rfl⟩)
      clear d0
      go_loopw [17, 18] (fun v17 v18 wr => ∃ i : Nat, v17 = .int .i64 (i : Int) ∧ i ≤ l.length ∧ Aside0 (Below w.heap.size w wr ∧ Kd.C k42 wr (some ad) l.length (l.map tokS) ∧ Kd.C k42 wr (some ad5) l.length (M.map tokS))) (fun v17 _ _ => l.length - (intOf v17).toNat)
      case atStart => exact ⟨0, rfl, Nat.zero_le _, ⟨pw_below_drewN HR5.out.1 nd, Kd.C_drewN HR5.out.2.1 nd, Kd.C_drewN HR5.out.2.2 nd⟩⟩
      case round =>
        clear HR5 HR H12
        obtain ⟨i, rfl, hi, HR⟩ := hrel
        by_cases hlt : i < l.length
        · obtain ⟨u, hu⟩ : ∃ u, l[i]? = some u := ⟨l[i]'hlt, List.getElem?_eq_getElem hlt⟩
          have hpu : u.place ≤ s.size := by obtain ⟨p, h1, h2, _⟩ := HX.out.place u (List.mem_of_getElem? hu); rw [bl_len] at h2; omega
          obtain ⟨_, _, _, e3⟩ := tok_at HR.out.2.1 _ _ hu
          obtain ⟨_, _, _, f3⟩ := tok_at HR.out.2.2 _ _ (HMA.out i u hu)
          clear hu
          have hi1 : (i : Int) < (l.length : Int) := by omega
          by_cases hki : kk ≤ i
          · rw [if_pos hki] at f3
            have f4 : wr.cell? ⟨(ad5.add (i * 4)).block, (ad5.add (i * 4)).off + 3, none⟩ = some (.int .i64 ((u.place : Int) + (gp.size : Int))) := by rw [f3]; congr 2
            have b4 : decide ((kk : Int) ≤ (i : Int)) = true := decide_eq_true (by omega)
            clear f3
            go_wp2_with fail
            refine ⟨⟨i + 1, by go_num, by omega, HR⟩, by simp [intOf]; omega⟩
          · rw [if_neg hki] at f3
            have b4 : decide ((kk : Int) ≤ (i : Int)) = false := decide_eq_false (by omega)
            go_wp2_with fail
            refine ⟨⟨i + 1, by go_num, by omega, HR⟩, by simp [intOf]; omega⟩
        · obtain rfl : i = l.length := by omega
          have b4 : decide ((l.length : Int) < (l.length : Int)) = false := decide_eq_false (by omega)
          go_wp2_with fail
          go_ret
          exact ⟨rfl, HR.out.1⟩
  · have h1 := hk2 hneg
    clear hk1 hk2 hneg
    go_wp2_with (go_at_call 22; refine (HCOM.out _).mono ?_; rintro e w3 ⟨rfl, hb⟩; replace HR := Aside0.mk (And.intro (below_then HR.out.1 HR.out.1.size hb) (Kd.C_below HR.out.2 hb)); clear hb d0 e3)
    refine region_facts (ws := [15]) (G := fun _ w' => Aside0 (Below w.heap.size w w' ∧ Kd.C k42 w' (some ad) (l.length) (l.map tokS))) (φs := [Fact.eq ?vb0, Fact.eq ?vb1, Fact.eq ?vb2, Fact.eq ?vb3, Fact.eq ?vb4, Fact.eq ?vb5, Fact.eq ?vb6, Fact.eq ?vb7, Fact.eq ?vb8, TFact M, TFact M, SFact M, Fact.eq ?vb12, BFact w.heap.size (.cells #[.int .i64 0, .int .i64 0] 25 (0, 0)), SFact M, Fact.none]) (n := 16) (m := 122) (by kernel_rfl) (by kernel_rfl) rfl rfl (by kernel_rfl) (fun _ _ _ h hb => ⟨⟨below_then h.out.1 h.out.1.size hb, Kd.C_below h.out.2 hb⟩⟩) (⟨⟨below_drew HR.out.1, Kd.C_below HR.out.2 (below_drew (Below.refl _ _))⟩⟩) ⟨?ob0, ?ob1, ?ob2, ?ob3, ?ob4, ?ob5, ?ob6, ?ob7, ?ob8, ?ob9, ?ob10, ?ob11, ?ob12, ?ob13, ?ob14, ?ob15, trivial⟩ ?finb
    case ob0 =>
      refine ask_val [.fix 0 _] rfl 76 rfl (.inl rfl) ⟨⟨by kernel_rfl, by conv => lhs; whnf⟩, trivial⟩ ?_
      dsimp only [Has, Fact.eq]
      intro e ρ w' hc hf hg hG h0
      go_simp
      with_reducible rfl
    case ob1 =>
      refine ask_val [.fix 13 _] rfl 77 rfl (.inl rfl) ⟨⟨by kernel_rfl, by conv => lhs; whnf⟩, trivial⟩ ?_
      dsimp only [Has, Fact.eq]
      intro e ρ w' hc hf hg hG h13
      go_simp
      with_reducible rfl
    case ob2 =>
      refine ask_val [.op 76 0 (Fact.eq _), .op 77 1 (Fact.eq _)] rfl 78 rfl (.inl rfl) ⟨⟨by kernel_rfl, rfl⟩, ⟨by kernel_rfl, rfl⟩, trivial⟩ ?_
      dsimp only [Has, Fact.eq]
      intro e ρ w' hc hf hg hG h76 h77
      go_simp
      with_reducible rfl
    case ob3 =>
      refine ask_val [.fix 14 _] rfl 79 rfl (.inl rfl) ⟨⟨by kernel_rfl, by conv => lhs; whnf⟩, trivial⟩ ?_
      dsimp only [Has, Fact.eq]
      intro e ρ w' hc hf hg hG h14
      go_simp
      with_reducible rfl
    case ob4 =>
      refine ask_val [.op 78 2 (Fact.eq _), .op 79 3 (Fact.eq _)] rfl 80 rfl (.inl rfl) ⟨⟨by kernel_rfl, rfl⟩, ⟨by kernel_rfl, rfl⟩, trivial⟩ ?_
      dsimp only [Has, Fact.eq]
      intro e ρ w' hc hf hg hG h78 h79
      go_simp
      with_reducible rfl
    case ob5 =>
      refine ask_val [.fix 0 _] rfl 81 rfl (.inl rfl) ⟨⟨by kernel_rfl, by conv => lhs; whnf⟩, trivial⟩ ?_
      dsimp only [Has, Fact.eq]
      intro e ρ w' hc hf hg hG h0
      go_simp
      with_reducible rfl
    case ob6 =>
      refine ask_val [.fix 13 _] rfl 82 rfl (.inl rfl) ⟨⟨by kernel_rfl, by conv => lhs; whnf⟩, trivial⟩ ?_
      dsimp only [Has, Fact.eq]
      intro e ρ w' hc hf hg hG h13
      go_simp
      with_reducible rfl
    case ob7 =>
      refine ask_val [.op 81 5 (Fact.eq _), .op 82 6 (Fact.eq _)] rfl 83 rfl (.inl rfl) ⟨⟨by kernel_rfl, rfl⟩, ⟨by kernel_rfl, rfl⟩, trivial⟩ ?_
      dsimp only [Has, Fact.eq]
      intro e ρ w' hc hf hg hG h81 h82
      go_simp
      with_reducible rfl
    case ob8 =>
      refine ask_val [.op 80 4 (Fact.eq _), .op 83 7 (Fact.eq _)] rfl 84 rfl (.inl rfl) ⟨⟨by kernel_rfl, rfl⟩, ⟨by kernel_rfl, rfl⟩, trivial⟩ ?_
      dsimp only [Has, Fact.eq]
      intro e ρ w' hc hf hg hG h80 h83
      go_simp
      with_reducible rfl
    case ob9 =>
      refine ask_call [.op 84 8 (Fact.eq _)] rfl 85 rfl (.inl rfl) ⟨⟨by kernel_rfl, rfl⟩, trivial⟩ 0 0 (by kernel_rfl) 11 Tryd.func11 (by kernel_rfl) rfl rfl ?_
      dsimp only [Has, Fact.eq]
      intro e ρ w' hp hq hc hf hg hG h84
      obtain rfl : e = 0 := by omega
      refine ⟨#[.string (s.extract 0 t.place ++ gp ++ s.extract t.place s.size)], by simp only [List.map_toArray, List.map_cons, List.map_nil, h84], tokens_list HMT.out _ _ (HE.out.below hG.out.1)⟩
    case ob10 =>
      refine ask_step [.op 85 9 _] rfl 75 rfl (.inl rfl) ⟨⟨by kernel_rfl, rfl⟩, trivial⟩ 0 0 (by kernel_rfl) ?_
      dsimp only [Has, Fact.eq]
      intro e ρ w' hp hq hc hf hg hG h85
      exact ⟨_, w', by go_simp, h85, Below.refl _ _⟩
    case ob11 =>
      refine ask_step [.op 75 10 _] rfl 86 rfl (.inl rfl) ⟨⟨by kernel_rfl, rfl⟩, trivial⟩ 0 0 (by kernel_rfl) ?_
      dsimp only [Has, Fact.eq]
      intro e ρ w' hp hq hc hf hg hG h75
      obtain ⟨A, h75, hA⟩ := h75
      exact ⟨_, w', by go_simp, ⟨A, rfl, hA⟩, Below.refl _ _⟩
    case ob12 =>
      refine ask_val [.op 75 10 _] rfl 87 rfl (.inl rfl) ⟨⟨by kernel_rfl, rfl⟩, trivial⟩ ?_
      dsimp only [Has, Fact.eq]
      intro e ρ w' hc hf hg hG h75
      obtain ⟨A, h75, hA⟩ := h75
      go_simp
      with_reducible rfl
    case ob13 =>
      refine ask_step [] rfl 16 rfl (.inl rfl) trivial 0 0 (by kernel_rfl) ?_
      dsimp only [Has, Fact.eq]
      intro e ρ w' hp hq hc hf hg hG 
      exact ⟨_, _, by go_simp, ⟨_, rfl, hG.out.1.size, blk_new _ _⟩, below_alloc (Below.refl _ _) _⟩
    case ob14 =>
      refine ask_step [.op 86 11 _] rfl 15 rfl (.inl rfl) ⟨⟨by kernel_rfl, rfl⟩, trivial⟩ 0 0 (by kernel_rfl) ?_
      dsimp only [Has, Fact.eq]
      intro e ρ w' hp hq hc hf hg hG h86
      exact ⟨_, w', by go_simp, h86, Below.refl _ _⟩
    case ob15 =>
      refine ask_store [.op 16 13 _, .op 87 12 (Fact.eq _)] rfl rfl (.inl rfl) ⟨⟨by kernel_rfl, rfl⟩, ⟨by kernel_rfl, rfl⟩, trivial⟩ 0 0 (by kernel_rfl) ?_
      dsimp only [Has, Fact.eq]
      intro e ρ w' hp hq hc hf hg hG h16 h87
      obtain ⟨g, h16, hB, hblk⟩ := h16
      have d0 := blk_cell hblk 0
      have d1 := blk_cell hblk 1
      have f0 := fun i => blk_frozen hblk i
      refine ⟨w', ?_, trivial, hG, ⟨fun _ h => h, fun _ h => h, fun _ h => h, fun _ h => h, fun _ h => h, fun _ h => h, fun _ h => h, fun _ h => h, fun _ h => h, fun _ h => h, fun _ h => h, fun _ h => h, fun _ h => h, fun _ h => h, fun _ h => h, fun _ h => h, trivial⟩⟩
      go_simp
      rw [same2 hblk]
    case finb =>
      intro w' hG
      refine fin_eq (fin_eq (fin_eq (fin_eq (fin_eq (fin_eq (fin_eq (fin_eq (fin_eq (fin_fact (fun v9 hv9 => fin_fact (fun v10 hv10 => fin_fact (fun v11 hv11 => fin_eq (fin_fact (fun v13 hv13 => fin_fact (fun v14 hv14 => fin_fact (fun v15 hv15 => fin_nil (a' := ?_) ?_ ?_))))))))))))))))
      rotate_left
      · simp only [Act.put, List.setIfInBounds_toArray, List.set_cons_zero, List.set_cons_succ]
        rfl
      clear hv9 hv10 hv11 hv15
      obtain ⟨A5, rfl, hC5⟩ := hv14
      obtain ⟨g5, rfl, hg5, hk5⟩ := hv13
      obtain ⟨ad5, rfl⟩ : ∃ ad5, A5 = some ad5 := by obtain ⟨x, h, _⟩ := hC5.2.2 (by rw [HML.out]; exact hl0); exact ⟨x, h⟩
      have d0 := blk_cell hk5 0
      have hs12 := same_calls (M.map tokS) (l.map tokS) (some ad5) (some ad) M.length l.length false w' (by rw [List.length_map]; exact hC5) (by rw [List.length_map]; exact Nat.le_refl _) (by rw [List.length_map]; exact hG.out.2) (by rw [List.length_map]; exact Nat.le_refl _) (by rw [List.length_map, HML.out]; omega)
      rw [HMS.out, List.length_map, List.length_map] at hs12
      rw [HML.out] at hC5 hs12 ⊢
      have HR5 : Aside0 (Below w.heap.size w w' ∧ Kd.C k42 w' (some ad) l.length (l.map tokS) ∧ Kd.C k42 w' (some ad5) l.length (M.map tokS)) := ⟨hG.out.1, hG.out.2, hC5⟩
      have H12 := Aside0.mk hs12
      clear hs12 hC5 hk5 hG g1 g2
      go_wp2_with (go_at_call 12; refine H12.out.mono ?_; rintro e w4 ⟨rfl, nd, rfl⟩)
      clear d0
      go_loopw [17, 18] (fun v17 v18 wr => ∃ i : Nat, v17 = .int .i64 (i : Int) ∧ i ≤ l.length ∧ Aside0 (Below w.heap.size w wr ∧ Kd.C k42 wr (some ad) l.length (l.map tokS) ∧ Kd.C k42 wr (some ad5) l.length (M.map tokS))) (fun v17 _ _ => l.length - (intOf v17).toNat)
      case atStart => exact ⟨0, rfl, Nat.zero_le _, ⟨pw_below_drewN HR5.out.1 nd, Kd.C_drewN HR5.out.2.1 nd, Kd.C_drewN HR5.out.2.2 nd⟩⟩
      case round =>
        clear HR5 HR H12
        obtain ⟨i, rfl, hi, HR⟩ := hrel
        by_cases hlt : i < l.length
        · obtain ⟨u, hu⟩ : ∃ u, l[i]? = some u := ⟨l[i]'hlt, List.getElem?_eq_getElem hlt⟩
          have hpu : u.place ≤ s.size := by obtain ⟨p, h1, h2, _⟩ := HX.out.place u (List.mem_of_getElem? hu); rw [bl_len] at h2; omega
          obtain ⟨_, _, _, e3⟩ := tok_at HR.out.2.1 _ _ hu
          obtain ⟨_, _, _, f3⟩ := tok_at HR.out.2.2 _ _ (HMA.out i u hu)
          clear hu
          have hi1 : (i : Int) < (l.length : Int) := by omega
          by_cases hki : kk ≤ i
          · rw [if_pos hki] at f3
            have f4 : wr.cell? ⟨(ad5.add (i * 4)).block, (ad5.add (i * 4)).off + 3, none⟩ = some (.int .i64 ((u.place : Int) + (gp.size : Int))) := by rw [f3]; congr 2
            have b4 : decide ((kk : Int) ≤ (i : Int)) = true := decide_eq_true (by omega)
            clear f3
            go_wp2_with fail
            refine ⟨⟨i + 1, by go_num, by omega, HR⟩, by simp [intOf]; omega⟩
          · rw [if_neg hki] at f3
            have b4 : decide ((kk : Int) ≤ (i : Int)) = false := decide_eq_false (by omega)
            go_wp2_with fail
            refine ⟨⟨i + 1, by go_num, by omega, HR⟩, by simp [intOf]; omega⟩
        · obtain rfl : i = l.length := by omega
          have b4 : decide ((l.length : Int) < (l.length : Int)) = false := decide_eq_false (by omega)
          go_wp2_with fail
          go_ret
          exact ⟨rfl, HR.out.1⟩
theorem gaps_law (s : ByteArray) (a : Int) (wd : ByteArray) (hwd : wd.size ≤ 140737488351232) (b : Bool) (w : World) (E : Erg w) : Calls Tryd.prog 6 #[.string s, .int .i64 a, .string wd, .bool b] w fun e w' => e = .returned (.bool true) ∧ Below w.heap.size w w' := by
  cases hq : tokensS (bl s) with
  | inr x => exact gaps_bad s wd a b x hq w E
  | inl l =>
    obtain ⟨gp, hgap, hgne, hcom, hsz⟩ := comment_calls wd hwd b
    by_cases hl : 4096 < s.size + gp.size
    · exact gaps_long s wd a b l hq gp hgap hgne hcom hl hsz w E
    · exact gaps_short s wd a b l hq gp hgap hgne hcom (by omega) w E
end Go.Proofs.YtjibdaigclgmhaaDoor.LexW
