/- The reference's kinds, mark, token, All, Tokens, walked. Conditions: those that each theorem states. -/
import Derived.Test.YtjibdaigclgmhaaGreatDoorLexX
import Derived.Test.YtjibdaigclgmhaaGreatDoorLexL
namespace Go.Proofs.YtjibdaigclgmhaaGreatDoor.LexW
open Go.RowKit Go.Maps Go.Proofs.YtjibdaigclgmhaaGreatDoor.Lex Go.Proofs.YtjibdaigclgmhaaGreatDoor.PLexPrints Go.Proofs.YtjibdaigclgmhaaGreatDoorW.PrintWords Go.Proofs.YtjibdaigclgmhaaGreatDoorW.PrintLast Go.Proofs.YtjibdaigclgmhaaGreatDoorW.PrintMore Go.Proofs.YtjibdaigclgmhaaGreatDoor.Facts
attribute [local go_sem] max2_int min2_int max_two min_two max_three min_three max_four min_four
set_option linter.unusedVariables false
set_option linter.unusedSimpArgs false
def kindL : List Int := [8, 9, 10, 11, 12, 13, 15, 16, 17]
set_option maxHeartbeats 4000000 in
set_option maxRecDepth 1000000 in
theorem kinds_calls (i : Nat) (hi : i < 9) (w : World) : Calls Tryz.prog 37 #[.int .i64 (i : Int)] w fun e w' => e = .returned (.int .i64 (kindL.getD i 0)) ∧ Below w.heap.size w w' := by
  rcases (show i = 0 ∨ i = 1 ∨ i = 2 ∨ i = 3 ∨ i = 4 ∨ i = 5 ∨ i = 6 ∨ i = 7 ∨ i = 8 by omega) with rfl | rfl | rfl | rfl | rfl | rfl | rfl | rfl | rfl
  all_goals
    go_enter Tryz.func37, Tryz.ntmps37
    go_wp2_with fail
    go_ret
    exact ⟨rfl, by first | exact (Below.refl _ _).alloc (Nat.le_refl _) _ | (repeat (first | exact Below.refl _ _ | apply below_alloc | refine Below.setCell ?_ (Nat.le_refl _) _))⟩
/-- what token and mark answer -/
def AnsR (o : Option (Tok × Nat)) (p : Nat) (e : Ending) : Prop :=
  e = .returned (match o with
    | some (t, n) => .tuple #[tokV t (p : Int), .int .i64 ((p + n : Nat) : Int)]
    | none => .tuple #[tokV ⟨0, [], 0⟩ 0, .int .i64 (p : Int)])
theorem ref_ret {fn : Func} {p u : Tmp} (hres : fn.results = #[.cell p 28, .tmp u]) (w W : World) (tmps : Array Value) (a b c d x0 x1 x2 x3 : Value) (o : Option (Tok × Nat)) (q : Nat)
    (HW : Below w.heap.size w W) (HK : W.heap[w.heap.size]? = some (.cells #[a, b, c, d] 28 (0, 0))) (hp : tmps.getD p undef = .pointer (some ⟨w.heap.size, 0, none⟩))
    (hA : AnsR o q (.returned (.tuple #[.agg #[x0, x1, x2, x3], tmps.getD u undef]))) :
    bodyPost Tryz.prog fn (fun e w' => AnsR o q e ∧ Below w.heap.size w w') Exit.ret { tmps := tmps, defers := [] } ((((W.setCell ⟨w.heap.size, 0, none⟩ x0).setCell ⟨w.heap.size, 1, none⟩ x1).setCell ⟨w.heap.size, 2, none⟩ x2).setCell ⟨w.heap.size, 3, none⟩ x3) := by
  have h0 := blk_put HK 0 x0 rfl
  have h1 := blk_put h0 1 x1 rfl
  have h2 := blk_put h1 2 x2 rfl
  have h3 := blk_put h2 3 x3 rfl
  refine bodyPost_ret (results_ct hres tmps _ w.heap.size 28 _ (0, 0) _ hp h3 Tryz.underlying28 rfl (by kernel_rfl)) rfl ⟨hA, ?_⟩
  exact (((HW.setCell (Nat.le_refl _) _).setCell (Nat.le_refl _) _).setCell (Nat.le_refl _) _).setCell (Nat.le_refl _) _
def markL : List UInt8 := [40, 41, 91, 93, 124, 58, 94, 46, 59]
theorem refIsB {s : ByteArray} {p : Nat} {c : UInt8} {b : Bool} (hb : ((bl s)[p]? == some c) = b) (w : World) : Calls Tryz.prog 75 #[.string s, .int .i64 (p : Int), .int .u8 (c.toNat : Int)] w fun e w' => e = .returned (.bool b) ∧ Below w.heap.size w w' := by
  have := refIs_calls s p c w
  rw [hb] at this; exact this
theorem refIsP {s : ByteArray} {p : Nat} {c : UInt8} {b : Bool} (hb : ((bl s)[p + 1]? == some c) = b) (w : World) : Calls Tryz.prog 75 #[.string s, .int .i64 ((p : Int) + 1), .int .u8 (c.toNat : Int)] w fun e w' => e = .returned (.bool b) ∧ Below w.heap.size w w' := refIsB (p := p + 1) hb w
set_option maxHeartbeats 4000000 in
set_option maxRecDepth 1000000 in
theorem mark_assign (s : ByteArray) (hs : s.size ≤ 70368744177664) (p : Nat) (hp : p < s.size) (h1 : ((bl s)[p]? == some 58) = true) (h2 : ((bl s)[p + 1]? == some 61) = true) (w : World) : Calls Tryz.prog 80 #[.string s, .int .i64 (p : Int)] w fun e w' => AnsR (some (⟨14, [], 0⟩, 2)) p e ∧ Below w.heap.size w w' := by
  have H1 := Aside0.mk h1
  have H2 := Aside0.mk h2
  clear h1 h2
  have hpi : (p : Int) < (s.size : Int) := by omega
  have HR : Aside0 ((w.alloc (.cells #[.int .i64 0, .string ByteArray.empty, .int .i64 0, .int .i64 0] 28 (0, 0))).heap[w.heap.size]? = some (.cells #[.int .i64 0, .string ByteArray.empty, .int .i64 0, .int .i64 0] 28 (0, 0)) ∧ Below w.heap.size w (w.alloc (.cells #[.int .i64 0, .string ByteArray.empty, .int .i64 0, .int .i64 0] 28 (0, 0)))) := ⟨blk_new _ _, (Below.refl _ _).alloc (Nat.le_refl _) _⟩
  go_enter Tryz.func80, Tryz.ntmps80
  go_wp2_with fail
  refine (refIsB H1.out _).mono ?_
  rintro e w1 ⟨rfl, hb⟩
  replace HR := Aside0.mk (And.intro (blk_below HR.out.1 hb) (below_then HR.out.2 HR.out.2.size hb))
  clear hb
  go_wp2_with fail
  refine (refIsP H2.out _).mono ?_
  rintro e w2 ⟨rfl, hb⟩
  have hk := blk_below HR.out.1 hb
  have hB := Aside0.mk (below_then HR.out.2 HR.out.2.size hb)
  have HK := Aside0.mk hk
  have k0 := blk_cell hk 0
  have k1 := blk_cell hk 1
  have k2 := blk_cell hk 2
  have k3 := blk_cell hk 3
  have f0 := fun i => blk_frozen hk i
  clear hb hk HR
  go_wp2_with fail
  refine ref_ret rfl w w2 _ _ _ _ _ _ _ _ _ _ _ hB.out HK.out rfl ?_
  show _ = _
  first | rfl | simp [tokV]
theorem markL_not {c : UInt8} (h : c ∉ markL) : markKind c = 0 := by
  simp only [markL, List.mem_cons, List.not_mem_nil, or_false, not_or] at h
  obtain ⟨h1, h2, h3, h4, h5, h6, h7, h8, h9⟩ := h
  unfold markKind
  rw [if_neg h1, if_neg h2, if_neg h3, if_neg h4, if_neg h5, if_neg h6, if_neg h7, if_neg h8, if_neg h9]
set_option maxHeartbeats 40000000 in
set_option maxRecDepth 1000000 in
theorem mark_loop (s : ByteArray) (hs : s.size ≤ 70368744177664) (p : Nat) (hp : p < s.size) (b1 b2 : Bool) (h1 : ((bl s)[p]? == some 58) = b1) (h2 : ((bl s)[p + 1]? == some 61) = b2) (h12 : (b1 && b2) = false) (o : Option (Tok × Nat)) (ho : (if markKind (s[p]'hp) = 0 then none else some (⟨markKind (s[p]'hp), [], 0⟩, 1)) = o) (w : World) : Calls Tryz.prog 80 #[.string s, .int .i64 (p : Int)] w fun e w' => AnsR o p e ∧ Below w.heap.size w w' := by
  have H1 := Aside0.mk h1
  have H2 := Aside0.mk h2
  have HO := Aside0.mk ho
  clear h1 h2 ho
  have hpi : (p : Int) < (s.size : Int) := by omega
  have HR : Aside0 ((w.alloc (.cells #[.int .i64 0, .string ByteArray.empty, .int .i64 0, .int .i64 0] 28 (0, 0))).heap[w.heap.size]? = some (.cells #[.int .i64 0, .string ByteArray.empty, .int .i64 0, .int .i64 0] 28 (0, 0)) ∧ Below w.heap.size w (w.alloc (.cells #[.int .i64 0, .string ByteArray.empty, .int .i64 0, .int .i64 0] 28 (0, 0)))) := ⟨blk_new _ _, (Below.refl _ _).alloc (Nat.le_refl _) _⟩
  cases b1 with
  | false =>
    clear h12
    go_enter Tryz.func80, Tryz.ntmps80
    go_wp2_with fail
    refine (refIsB H1.out _).mono ?_
    rintro e w1 ⟨rfl, hb⟩
    replace HR := Aside0.mk (And.intro (blk_below HR.out.1 hb) (below_then HR.out.2 HR.out.2.size hb))
    clear hb
    go_wp2_with fail
    clear H1 H2
    go_loopw [6] (fun v6 wr => ∃ i : Nat, v6 = .int .i64 (i : Int) ∧ i ≤ 9 ∧ Aside0 (wr.heap[w.heap.size]? = some (.cells #[.int .i64 0, .string ByteArray.empty, .int .i64 0, .int .i64 0] 28 (0, 0)) ∧ Below w.heap.size w wr) ∧ Aside0 ((s[p]'hp) ∉ markL.take i)) (fun v6 _ => 9 - (intOf v6).toNat)
    case atStart => exact ⟨0, rfl, by omega, HR, ⟨by simp⟩⟩
    case round =>
      clear HR
      obtain ⟨i, rfl, hi, HR, HN⟩ := hrel
      by_cases hi9 : i < 9
      · rcases (show i = 0 ∨ i = 1 ∨ i = 2 ∨ i = 3 ∨ i = 4 ∨ i = 5 ∨ i = 6 ∨ i = 7 ∨ i = 8 by omega) with rfl | rfl | rfl | rfl | rfl | rfl | rfl | rfl | rfl
        · by_cases hc : (s[p]'hp) = 40
          · have b1 : ((40 : Int) == (((s[p]'hp).toNat : Nat) : Int)) = true := by rw [hc]; rfl
            have HC := Aside0.mk hc
            clear hc
            go_wp2_with fail
            refine region_facts (ws := []) (G := fun _ w' => Aside0 (w'.heap[w.heap.size]? = some (.cells #[.int .i64 0, .string ByteArray.empty, .int .i64 0, .int .i64 0] 28 (0, 0)) ∧ Below w.heap.size w w')) (φs := [Fact.eq ?va0y0, Fact.eq (.int .u8 40), Fact.eq ?va0y2, Fact.eq ?va0y3, Fact.eq ?va0y4, Fact.eq ?va0y5]) (n := 6) (m := 38) (by kernel_rfl) (by kernel_rfl) rfl rfl (by kernel_rfl) (fun _ _ _ h hb => ⟨⟨blk_below h.out.1 hb, below_then h.out.2 h.out.2.size hb⟩⟩) (⟨⟨blk_drew HR.out.1, below_drew HR.out.2⟩⟩) ⟨?oa0y0, ?oa0y1, ?oa0y2, ?oa0y3, ?oa0y4, ?oa0y5, trivial⟩ ?fina0y
            case oa0y0 =>
              refine ask_val [.fix 6 _] rfl 24 rfl (.inl rfl) ⟨⟨by kernel_rfl, by conv => lhs; whnf⟩, trivial⟩ ?_
              dsimp only [Has, Fact.eq]
              intro e ρ w' hc hf hg hG h6
              go_simp
              with_reducible rfl
            case oa0y1 =>
              refine ask_val [.op 24 0 (Fact.eq _)] rfl 25 rfl (.inl rfl) ⟨⟨by kernel_rfl, rfl⟩, trivial⟩ ?_
              dsimp only [Has, Fact.eq]
              intro e ρ w' hc hf hg hG h24
              obtain s0 := hG
              go_simp
              rfl
            case oa0y2 =>
              refine ask_val [.fix 0 _] rfl 26 rfl (.inl rfl) ⟨⟨by kernel_rfl, by conv => lhs; whnf⟩, trivial⟩ ?_
              dsimp only [Has, Fact.eq]
              intro e ρ w' hc hf hg hG h0
              go_simp
              with_reducible rfl
            case oa0y3 =>
              refine ask_val [.fix 1 _] rfl 27 rfl (.inl rfl) ⟨⟨by kernel_rfl, by conv => lhs; whnf⟩, trivial⟩ ?_
              dsimp only [Has, Fact.eq]
              intro e ρ w' hc hf hg hG h1
              go_simp
              with_reducible rfl
            case oa0y4 =>
              refine ask_val [.op 26 2 (Fact.eq _), .op 27 3 (Fact.eq _)] rfl 28 rfl (.inl rfl) ⟨⟨by kernel_rfl, rfl⟩, ⟨by kernel_rfl, rfl⟩, trivial⟩ ?_
              dsimp only [Has, Fact.eq]
              intro e ρ w' hc hf hg hG h26 h27
              obtain s0 := hG
              go_simp
              with_reducible rfl
            case oa0y5 =>
              refine ask_val [.op 25 1 (Fact.eq _), .op 28 4 (Fact.eq _)] rfl 29 rfl (.inl rfl) ⟨⟨by kernel_rfl, rfl⟩, ⟨by kernel_rfl, rfl⟩, trivial⟩ ?_
              dsimp only [Has, Fact.eq]
              intro e ρ w' hc hf hg hG h25 h28
              go_simp
              with_reducible rfl
            case fina0y =>
              intro w' hG
              refine fin_eq (fin_eq (fin_eq (fin_eq (fin_eq (fin_eq (fin_nil (a' := ?_) ?_ ?_))))))
              rotate_left
              · simp only [Act.put, List.setIfInBounds_toArray, List.set_cons_zero, List.set_cons_succ]
                rfl
              obtain ⟨hk, hb⟩ := hG.out
              have HK := Aside0.mk hk
              have HB := Aside0.mk hb
              clear hk hb hG b1
              go_wp2_with fail
              refine (kinds_calls 0 (by omega) _).mono ?_
              rintro e w5 ⟨rfl, hb5⟩
              replace HK := Aside0.mk (blk_below HK.out hb5)
              replace HB := Aside0.mk (below_then HB.out HB.out.size hb5)
              have hk := HK.out
              have k0 := blk_cell hk 0
              have k1 := blk_cell hk 1
              have k2 := blk_cell hk 2
              have k3 := blk_cell hk 3
              have f0 := fun i => blk_frozen hk i
              clear hb5 hk
              go_wp2_with fail
              refine ref_ret rfl w w5 _ _ _ _ _ _ _ _ _ _ _ HB.out HK.out rfl ?_
              rw [← HO.out, HC.out]
              show _ = _
              first | rfl | simp [tokV]
          · have b1 : ((40 : Int) == (((s[p]'hp).toNat : Nat) : Int)) = false := by rw [beq_eq_false_iff_ne]; intro e; exact hc (by apply UInt8.toNat_inj.1; have : ((40 : UInt8).toNat : Int) = 40 := rfl; omega)
            have HC := Aside0.mk hc
            clear hc
            go_wp2_with fail
            refine region_facts (ws := []) (G := fun _ w' => Aside0 (w'.heap[w.heap.size]? = some (.cells #[.int .i64 0, .string ByteArray.empty, .int .i64 0, .int .i64 0] 28 (0, 0)) ∧ Below w.heap.size w w')) (φs := [Fact.eq ?va0n0, Fact.eq (.int .u8 40), Fact.eq ?va0n2, Fact.eq ?va0n3, Fact.eq ?va0n4, Fact.eq ?va0n5]) (n := 6) (m := 38) (by kernel_rfl) (by kernel_rfl) rfl rfl (by kernel_rfl) (fun _ _ _ h hb => ⟨⟨blk_below h.out.1 hb, below_then h.out.2 h.out.2.size hb⟩⟩) (⟨⟨blk_drew HR.out.1, below_drew HR.out.2⟩⟩) ⟨?oa0n0, ?oa0n1, ?oa0n2, ?oa0n3, ?oa0n4, ?oa0n5, trivial⟩ ?fina0n
            case oa0n0 =>
              refine ask_val [.fix 6 _] rfl 24 rfl (.inl rfl) ⟨⟨by kernel_rfl, by conv => lhs; whnf⟩, trivial⟩ ?_
              dsimp only [Has, Fact.eq]
              intro e ρ w' hc hf hg hG h6
              go_simp
              with_reducible rfl
            case oa0n1 =>
              refine ask_val [.op 24 0 (Fact.eq _)] rfl 25 rfl (.inl rfl) ⟨⟨by kernel_rfl, rfl⟩, trivial⟩ ?_
              dsimp only [Has, Fact.eq]
              intro e ρ w' hc hf hg hG h24
              obtain s0 := hG
              go_simp
              rfl
            case oa0n2 =>
              refine ask_val [.fix 0 _] rfl 26 rfl (.inl rfl) ⟨⟨by kernel_rfl, by conv => lhs; whnf⟩, trivial⟩ ?_
              dsimp only [Has, Fact.eq]
              intro e ρ w' hc hf hg hG h0
              go_simp
              with_reducible rfl
            case oa0n3 =>
              refine ask_val [.fix 1 _] rfl 27 rfl (.inl rfl) ⟨⟨by kernel_rfl, by conv => lhs; whnf⟩, trivial⟩ ?_
              dsimp only [Has, Fact.eq]
              intro e ρ w' hc hf hg hG h1
              go_simp
              with_reducible rfl
            case oa0n4 =>
              refine ask_val [.op 26 2 (Fact.eq _), .op 27 3 (Fact.eq _)] rfl 28 rfl (.inl rfl) ⟨⟨by kernel_rfl, rfl⟩, ⟨by kernel_rfl, rfl⟩, trivial⟩ ?_
              dsimp only [Has, Fact.eq]
              intro e ρ w' hc hf hg hG h26 h27
              obtain s0 := hG
              go_simp
              with_reducible rfl
            case oa0n5 =>
              refine ask_val [.op 25 1 (Fact.eq _), .op 28 4 (Fact.eq _)] rfl 29 rfl (.inl rfl) ⟨⟨by kernel_rfl, rfl⟩, ⟨by kernel_rfl, rfl⟩, trivial⟩ ?_
              dsimp only [Has, Fact.eq]
              intro e ρ w' hc hf hg hG h25 h28
              go_simp
              with_reducible rfl
            case fina0n =>
              intro w' hG
              refine fin_eq (fin_eq (fin_eq (fin_eq (fin_eq (fin_eq (fin_nil (a' := ?_) ?_ ?_))))))
              rotate_left
              · simp only [Act.put, List.setIfInBounds_toArray, List.set_cons_zero, List.set_cons_succ]
                rfl
              clear b1
              go_wp2_with fail
              refine ⟨⟨1, by first | rfl | go_num, by omega, hG, ⟨?_⟩⟩, by simp [intOf]⟩
              rw [show markL.take 1 = markL.take 0 ++ [40] from rfl, List.mem_append, List.mem_singleton, not_or]
              exact ⟨HN.out, HC.out⟩
        · by_cases hc : (s[p]'hp) = 41
          · have b1 : ((41 : Int) == (((s[p]'hp).toNat : Nat) : Int)) = true := by rw [hc]; rfl
            have HC := Aside0.mk hc
            clear hc
            go_wp2_with fail
            refine region_facts (ws := []) (G := fun _ w' => Aside0 (w'.heap[w.heap.size]? = some (.cells #[.int .i64 0, .string ByteArray.empty, .int .i64 0, .int .i64 0] 28 (0, 0)) ∧ Below w.heap.size w w')) (φs := [Fact.eq ?va1y0, Fact.eq (.int .u8 41), Fact.eq ?va1y2, Fact.eq ?va1y3, Fact.eq ?va1y4, Fact.eq ?va1y5]) (n := 6) (m := 38) (by kernel_rfl) (by kernel_rfl) rfl rfl (by kernel_rfl) (fun _ _ _ h hb => ⟨⟨blk_below h.out.1 hb, below_then h.out.2 h.out.2.size hb⟩⟩) (⟨⟨blk_drew HR.out.1, below_drew HR.out.2⟩⟩) ⟨?oa1y0, ?oa1y1, ?oa1y2, ?oa1y3, ?oa1y4, ?oa1y5, trivial⟩ ?fina1y
            case oa1y0 =>
              refine ask_val [.fix 6 _] rfl 24 rfl (.inl rfl) ⟨⟨by kernel_rfl, by conv => lhs; whnf⟩, trivial⟩ ?_
              dsimp only [Has, Fact.eq]
              intro e ρ w' hc hf hg hG h6
              go_simp
              with_reducible rfl
            case oa1y1 =>
              refine ask_val [.op 24 0 (Fact.eq _)] rfl 25 rfl (.inl rfl) ⟨⟨by kernel_rfl, rfl⟩, trivial⟩ ?_
              dsimp only [Has, Fact.eq]
              intro e ρ w' hc hf hg hG h24
              obtain s0 := hG
              go_simp
              rfl
            case oa1y2 =>
              refine ask_val [.fix 0 _] rfl 26 rfl (.inl rfl) ⟨⟨by kernel_rfl, by conv => lhs; whnf⟩, trivial⟩ ?_
              dsimp only [Has, Fact.eq]
              intro e ρ w' hc hf hg hG h0
              go_simp
              with_reducible rfl
            case oa1y3 =>
              refine ask_val [.fix 1 _] rfl 27 rfl (.inl rfl) ⟨⟨by kernel_rfl, by conv => lhs; whnf⟩, trivial⟩ ?_
              dsimp only [Has, Fact.eq]
              intro e ρ w' hc hf hg hG h1
              go_simp
              with_reducible rfl
            case oa1y4 =>
              refine ask_val [.op 26 2 (Fact.eq _), .op 27 3 (Fact.eq _)] rfl 28 rfl (.inl rfl) ⟨⟨by kernel_rfl, rfl⟩, ⟨by kernel_rfl, rfl⟩, trivial⟩ ?_
              dsimp only [Has, Fact.eq]
              intro e ρ w' hc hf hg hG h26 h27
              obtain s0 := hG
              go_simp
              with_reducible rfl
            case oa1y5 =>
              refine ask_val [.op 25 1 (Fact.eq _), .op 28 4 (Fact.eq _)] rfl 29 rfl (.inl rfl) ⟨⟨by kernel_rfl, rfl⟩, ⟨by kernel_rfl, rfl⟩, trivial⟩ ?_
              dsimp only [Has, Fact.eq]
              intro e ρ w' hc hf hg hG h25 h28
              go_simp
              with_reducible rfl
            case fina1y =>
              intro w' hG
              refine fin_eq (fin_eq (fin_eq (fin_eq (fin_eq (fin_eq (fin_nil (a' := ?_) ?_ ?_))))))
              rotate_left
              · simp only [Act.put, List.setIfInBounds_toArray, List.set_cons_zero, List.set_cons_succ]
                rfl
              obtain ⟨hk, hb⟩ := hG.out
              have HK := Aside0.mk hk
              have HB := Aside0.mk hb
              clear hk hb hG b1
              go_wp2_with fail
              refine (kinds_calls 1 (by omega) _).mono ?_
              rintro e w5 ⟨rfl, hb5⟩
              replace HK := Aside0.mk (blk_below HK.out hb5)
              replace HB := Aside0.mk (below_then HB.out HB.out.size hb5)
              have hk := HK.out
              have k0 := blk_cell hk 0
              have k1 := blk_cell hk 1
              have k2 := blk_cell hk 2
              have k3 := blk_cell hk 3
              have f0 := fun i => blk_frozen hk i
              clear hb5 hk
              go_wp2_with fail
              refine ref_ret rfl w w5 _ _ _ _ _ _ _ _ _ _ _ HB.out HK.out rfl ?_
              rw [← HO.out, HC.out]
              show _ = _
              first | rfl | simp [tokV]
          · have b1 : ((41 : Int) == (((s[p]'hp).toNat : Nat) : Int)) = false := by rw [beq_eq_false_iff_ne]; intro e; exact hc (by apply UInt8.toNat_inj.1; have : ((41 : UInt8).toNat : Int) = 41 := rfl; omega)
            have HC := Aside0.mk hc
            clear hc
            go_wp2_with fail
            refine region_facts (ws := []) (G := fun _ w' => Aside0 (w'.heap[w.heap.size]? = some (.cells #[.int .i64 0, .string ByteArray.empty, .int .i64 0, .int .i64 0] 28 (0, 0)) ∧ Below w.heap.size w w')) (φs := [Fact.eq ?va1n0, Fact.eq (.int .u8 41), Fact.eq ?va1n2, Fact.eq ?va1n3, Fact.eq ?va1n4, Fact.eq ?va1n5]) (n := 6) (m := 38) (by kernel_rfl) (by kernel_rfl) rfl rfl (by kernel_rfl) (fun _ _ _ h hb => ⟨⟨blk_below h.out.1 hb, below_then h.out.2 h.out.2.size hb⟩⟩) (⟨⟨blk_drew HR.out.1, below_drew HR.out.2⟩⟩) ⟨?oa1n0, ?oa1n1, ?oa1n2, ?oa1n3, ?oa1n4, ?oa1n5, trivial⟩ ?fina1n
            case oa1n0 =>
              refine ask_val [.fix 6 _] rfl 24 rfl (.inl rfl) ⟨⟨by kernel_rfl, by conv => lhs; whnf⟩, trivial⟩ ?_
              dsimp only [Has, Fact.eq]
              intro e ρ w' hc hf hg hG h6
              go_simp
              with_reducible rfl
            case oa1n1 =>
              refine ask_val [.op 24 0 (Fact.eq _)] rfl 25 rfl (.inl rfl) ⟨⟨by kernel_rfl, rfl⟩, trivial⟩ ?_
              dsimp only [Has, Fact.eq]
              intro e ρ w' hc hf hg hG h24
              obtain s0 := hG
              go_simp
              rfl
            case oa1n2 =>
              refine ask_val [.fix 0 _] rfl 26 rfl (.inl rfl) ⟨⟨by kernel_rfl, by conv => lhs; whnf⟩, trivial⟩ ?_
              dsimp only [Has, Fact.eq]
              intro e ρ w' hc hf hg hG h0
              go_simp
              with_reducible rfl
            case oa1n3 =>
              refine ask_val [.fix 1 _] rfl 27 rfl (.inl rfl) ⟨⟨by kernel_rfl, by conv => lhs; whnf⟩, trivial⟩ ?_
              dsimp only [Has, Fact.eq]
              intro e ρ w' hc hf hg hG h1
              go_simp
              with_reducible rfl
            case oa1n4 =>
              refine ask_val [.op 26 2 (Fact.eq _), .op 27 3 (Fact.eq _)] rfl 28 rfl (.inl rfl) ⟨⟨by kernel_rfl, rfl⟩, ⟨by kernel_rfl, rfl⟩, trivial⟩ ?_
              dsimp only [Has, Fact.eq]
              intro e ρ w' hc hf hg hG h26 h27
              obtain s0 := hG
              go_simp
              with_reducible rfl
            case oa1n5 =>
              refine ask_val [.op 25 1 (Fact.eq _), .op 28 4 (Fact.eq _)] rfl 29 rfl (.inl rfl) ⟨⟨by kernel_rfl, rfl⟩, ⟨by kernel_rfl, rfl⟩, trivial⟩ ?_
              dsimp only [Has, Fact.eq]
              intro e ρ w' hc hf hg hG h25 h28
              go_simp
              with_reducible rfl
            case fina1n =>
              intro w' hG
              refine fin_eq (fin_eq (fin_eq (fin_eq (fin_eq (fin_eq (fin_nil (a' := ?_) ?_ ?_))))))
              rotate_left
              · simp only [Act.put, List.setIfInBounds_toArray, List.set_cons_zero, List.set_cons_succ]
                rfl
              clear b1
              go_wp2_with fail
              refine ⟨⟨2, by first | rfl | go_num, by omega, hG, ⟨?_⟩⟩, by simp [intOf]⟩
              rw [show markL.take 2 = markL.take 1 ++ [41] from rfl, List.mem_append, List.mem_singleton, not_or]
              exact ⟨HN.out, HC.out⟩
        · by_cases hc : (s[p]'hp) = 91
          · have b1 : ((91 : Int) == (((s[p]'hp).toNat : Nat) : Int)) = true := by rw [hc]; rfl
            have HC := Aside0.mk hc
            clear hc
            go_wp2_with fail
            refine region_facts (ws := []) (G := fun _ w' => Aside0 (w'.heap[w.heap.size]? = some (.cells #[.int .i64 0, .string ByteArray.empty, .int .i64 0, .int .i64 0] 28 (0, 0)) ∧ Below w.heap.size w w')) (φs := [Fact.eq ?va2y0, Fact.eq (.int .u8 91), Fact.eq ?va2y2, Fact.eq ?va2y3, Fact.eq ?va2y4, Fact.eq ?va2y5]) (n := 6) (m := 38) (by kernel_rfl) (by kernel_rfl) rfl rfl (by kernel_rfl) (fun _ _ _ h hb => ⟨⟨blk_below h.out.1 hb, below_then h.out.2 h.out.2.size hb⟩⟩) (⟨⟨blk_drew HR.out.1, below_drew HR.out.2⟩⟩) ⟨?oa2y0, ?oa2y1, ?oa2y2, ?oa2y3, ?oa2y4, ?oa2y5, trivial⟩ ?fina2y
            case oa2y0 =>
              refine ask_val [.fix 6 _] rfl 24 rfl (.inl rfl) ⟨⟨by kernel_rfl, by conv => lhs; whnf⟩, trivial⟩ ?_
              dsimp only [Has, Fact.eq]
              intro e ρ w' hc hf hg hG h6
              go_simp
              with_reducible rfl
            case oa2y1 =>
              refine ask_val [.op 24 0 (Fact.eq _)] rfl 25 rfl (.inl rfl) ⟨⟨by kernel_rfl, rfl⟩, trivial⟩ ?_
              dsimp only [Has, Fact.eq]
              intro e ρ w' hc hf hg hG h24
              obtain s0 := hG
              go_simp
              rfl
            case oa2y2 =>
              refine ask_val [.fix 0 _] rfl 26 rfl (.inl rfl) ⟨⟨by kernel_rfl, by conv => lhs; whnf⟩, trivial⟩ ?_
              dsimp only [Has, Fact.eq]
              intro e ρ w' hc hf hg hG h0
              go_simp
              with_reducible rfl
            case oa2y3 =>
              refine ask_val [.fix 1 _] rfl 27 rfl (.inl rfl) ⟨⟨by kernel_rfl, by conv => lhs; whnf⟩, trivial⟩ ?_
              dsimp only [Has, Fact.eq]
              intro e ρ w' hc hf hg hG h1
              go_simp
              with_reducible rfl
            case oa2y4 =>
              refine ask_val [.op 26 2 (Fact.eq _), .op 27 3 (Fact.eq _)] rfl 28 rfl (.inl rfl) ⟨⟨by kernel_rfl, rfl⟩, ⟨by kernel_rfl, rfl⟩, trivial⟩ ?_
              dsimp only [Has, Fact.eq]
              intro e ρ w' hc hf hg hG h26 h27
              obtain s0 := hG
              go_simp
              with_reducible rfl
            case oa2y5 =>
              refine ask_val [.op 25 1 (Fact.eq _), .op 28 4 (Fact.eq _)] rfl 29 rfl (.inl rfl) ⟨⟨by kernel_rfl, rfl⟩, ⟨by kernel_rfl, rfl⟩, trivial⟩ ?_
              dsimp only [Has, Fact.eq]
              intro e ρ w' hc hf hg hG h25 h28
              go_simp
              with_reducible rfl
            case fina2y =>
              intro w' hG
              refine fin_eq (fin_eq (fin_eq (fin_eq (fin_eq (fin_eq (fin_nil (a' := ?_) ?_ ?_))))))
              rotate_left
              · simp only [Act.put, List.setIfInBounds_toArray, List.set_cons_zero, List.set_cons_succ]
                rfl
              obtain ⟨hk, hb⟩ := hG.out
              have HK := Aside0.mk hk
              have HB := Aside0.mk hb
              clear hk hb hG b1
              go_wp2_with fail
              refine (kinds_calls 2 (by omega) _).mono ?_
              rintro e w5 ⟨rfl, hb5⟩
              replace HK := Aside0.mk (blk_below HK.out hb5)
              replace HB := Aside0.mk (below_then HB.out HB.out.size hb5)
              have hk := HK.out
              have k0 := blk_cell hk 0
              have k1 := blk_cell hk 1
              have k2 := blk_cell hk 2
              have k3 := blk_cell hk 3
              have f0 := fun i => blk_frozen hk i
              clear hb5 hk
              go_wp2_with fail
              refine ref_ret rfl w w5 _ _ _ _ _ _ _ _ _ _ _ HB.out HK.out rfl ?_
              rw [← HO.out, HC.out]
              show _ = _
              first | rfl | simp [tokV]
          · have b1 : ((91 : Int) == (((s[p]'hp).toNat : Nat) : Int)) = false := by rw [beq_eq_false_iff_ne]; intro e; exact hc (by apply UInt8.toNat_inj.1; have : ((91 : UInt8).toNat : Int) = 91 := rfl; omega)
            have HC := Aside0.mk hc
            clear hc
            go_wp2_with fail
            refine region_facts (ws := []) (G := fun _ w' => Aside0 (w'.heap[w.heap.size]? = some (.cells #[.int .i64 0, .string ByteArray.empty, .int .i64 0, .int .i64 0] 28 (0, 0)) ∧ Below w.heap.size w w')) (φs := [Fact.eq ?va2n0, Fact.eq (.int .u8 91), Fact.eq ?va2n2, Fact.eq ?va2n3, Fact.eq ?va2n4, Fact.eq ?va2n5]) (n := 6) (m := 38) (by kernel_rfl) (by kernel_rfl) rfl rfl (by kernel_rfl) (fun _ _ _ h hb => ⟨⟨blk_below h.out.1 hb, below_then h.out.2 h.out.2.size hb⟩⟩) (⟨⟨blk_drew HR.out.1, below_drew HR.out.2⟩⟩) ⟨?oa2n0, ?oa2n1, ?oa2n2, ?oa2n3, ?oa2n4, ?oa2n5, trivial⟩ ?fina2n
            case oa2n0 =>
              refine ask_val [.fix 6 _] rfl 24 rfl (.inl rfl) ⟨⟨by kernel_rfl, by conv => lhs; whnf⟩, trivial⟩ ?_
              dsimp only [Has, Fact.eq]
              intro e ρ w' hc hf hg hG h6
              go_simp
              with_reducible rfl
            case oa2n1 =>
              refine ask_val [.op 24 0 (Fact.eq _)] rfl 25 rfl (.inl rfl) ⟨⟨by kernel_rfl, rfl⟩, trivial⟩ ?_
              dsimp only [Has, Fact.eq]
              intro e ρ w' hc hf hg hG h24
              obtain s0 := hG
              go_simp
              rfl
            case oa2n2 =>
              refine ask_val [.fix 0 _] rfl 26 rfl (.inl rfl) ⟨⟨by kernel_rfl, by conv => lhs; whnf⟩, trivial⟩ ?_
              dsimp only [Has, Fact.eq]
              intro e ρ w' hc hf hg hG h0
              go_simp
              with_reducible rfl
            case oa2n3 =>
              refine ask_val [.fix 1 _] rfl 27 rfl (.inl rfl) ⟨⟨by kernel_rfl, by conv => lhs; whnf⟩, trivial⟩ ?_
              dsimp only [Has, Fact.eq]
              intro e ρ w' hc hf hg hG h1
              go_simp
              with_reducible rfl
            case oa2n4 =>
              refine ask_val [.op 26 2 (Fact.eq _), .op 27 3 (Fact.eq _)] rfl 28 rfl (.inl rfl) ⟨⟨by kernel_rfl, rfl⟩, ⟨by kernel_rfl, rfl⟩, trivial⟩ ?_
              dsimp only [Has, Fact.eq]
              intro e ρ w' hc hf hg hG h26 h27
              obtain s0 := hG
              go_simp
              with_reducible rfl
            case oa2n5 =>
              refine ask_val [.op 25 1 (Fact.eq _), .op 28 4 (Fact.eq _)] rfl 29 rfl (.inl rfl) ⟨⟨by kernel_rfl, rfl⟩, ⟨by kernel_rfl, rfl⟩, trivial⟩ ?_
              dsimp only [Has, Fact.eq]
              intro e ρ w' hc hf hg hG h25 h28
              go_simp
              with_reducible rfl
            case fina2n =>
              intro w' hG
              refine fin_eq (fin_eq (fin_eq (fin_eq (fin_eq (fin_eq (fin_nil (a' := ?_) ?_ ?_))))))
              rotate_left
              · simp only [Act.put, List.setIfInBounds_toArray, List.set_cons_zero, List.set_cons_succ]
                rfl
              clear b1
              go_wp2_with fail
              refine ⟨⟨3, by first | rfl | go_num, by omega, hG, ⟨?_⟩⟩, by simp [intOf]⟩
              rw [show markL.take 3 = markL.take 2 ++ [91] from rfl, List.mem_append, List.mem_singleton, not_or]
              exact ⟨HN.out, HC.out⟩
        · by_cases hc : (s[p]'hp) = 93
          · have b1 : ((93 : Int) == (((s[p]'hp).toNat : Nat) : Int)) = true := by rw [hc]; rfl
            have HC := Aside0.mk hc
            clear hc
            go_wp2_with fail
            refine region_facts (ws := []) (G := fun _ w' => Aside0 (w'.heap[w.heap.size]? = some (.cells #[.int .i64 0, .string ByteArray.empty, .int .i64 0, .int .i64 0] 28 (0, 0)) ∧ Below w.heap.size w w')) (φs := [Fact.eq ?va3y0, Fact.eq (.int .u8 93), Fact.eq ?va3y2, Fact.eq ?va3y3, Fact.eq ?va3y4, Fact.eq ?va3y5]) (n := 6) (m := 38) (by kernel_rfl) (by kernel_rfl) rfl rfl (by kernel_rfl) (fun _ _ _ h hb => ⟨⟨blk_below h.out.1 hb, below_then h.out.2 h.out.2.size hb⟩⟩) (⟨⟨blk_drew HR.out.1, below_drew HR.out.2⟩⟩) ⟨?oa3y0, ?oa3y1, ?oa3y2, ?oa3y3, ?oa3y4, ?oa3y5, trivial⟩ ?fina3y
            case oa3y0 =>
              refine ask_val [.fix 6 _] rfl 24 rfl (.inl rfl) ⟨⟨by kernel_rfl, by conv => lhs; whnf⟩, trivial⟩ ?_
              dsimp only [Has, Fact.eq]
              intro e ρ w' hc hf hg hG h6
              go_simp
              with_reducible rfl
            case oa3y1 =>
              refine ask_val [.op 24 0 (Fact.eq _)] rfl 25 rfl (.inl rfl) ⟨⟨by kernel_rfl, rfl⟩, trivial⟩ ?_
              dsimp only [Has, Fact.eq]
              intro e ρ w' hc hf hg hG h24
              obtain s0 := hG
              go_simp
              rfl
            case oa3y2 =>
              refine ask_val [.fix 0 _] rfl 26 rfl (.inl rfl) ⟨⟨by kernel_rfl, by conv => lhs; whnf⟩, trivial⟩ ?_
              dsimp only [Has, Fact.eq]
              intro e ρ w' hc hf hg hG h0
              go_simp
              with_reducible rfl
            case oa3y3 =>
              refine ask_val [.fix 1 _] rfl 27 rfl (.inl rfl) ⟨⟨by kernel_rfl, by conv => lhs; whnf⟩, trivial⟩ ?_
              dsimp only [Has, Fact.eq]
              intro e ρ w' hc hf hg hG h1
              go_simp
              with_reducible rfl
            case oa3y4 =>
              refine ask_val [.op 26 2 (Fact.eq _), .op 27 3 (Fact.eq _)] rfl 28 rfl (.inl rfl) ⟨⟨by kernel_rfl, rfl⟩, ⟨by kernel_rfl, rfl⟩, trivial⟩ ?_
              dsimp only [Has, Fact.eq]
              intro e ρ w' hc hf hg hG h26 h27
              obtain s0 := hG
              go_simp
              with_reducible rfl
            case oa3y5 =>
              refine ask_val [.op 25 1 (Fact.eq _), .op 28 4 (Fact.eq _)] rfl 29 rfl (.inl rfl) ⟨⟨by kernel_rfl, rfl⟩, ⟨by kernel_rfl, rfl⟩, trivial⟩ ?_
              dsimp only [Has, Fact.eq]
              intro e ρ w' hc hf hg hG h25 h28
              go_simp
              with_reducible rfl
            case fina3y =>
              intro w' hG
              refine fin_eq (fin_eq (fin_eq (fin_eq (fin_eq (fin_eq (fin_nil (a' := ?_) ?_ ?_))))))
              rotate_left
              · simp only [Act.put, List.setIfInBounds_toArray, List.set_cons_zero, List.set_cons_succ]
                rfl
              obtain ⟨hk, hb⟩ := hG.out
              have HK := Aside0.mk hk
              have HB := Aside0.mk hb
              clear hk hb hG b1
              go_wp2_with fail
              refine (kinds_calls 3 (by omega) _).mono ?_
              rintro e w5 ⟨rfl, hb5⟩
              replace HK := Aside0.mk (blk_below HK.out hb5)
              replace HB := Aside0.mk (below_then HB.out HB.out.size hb5)
              have hk := HK.out
              have k0 := blk_cell hk 0
              have k1 := blk_cell hk 1
              have k2 := blk_cell hk 2
              have k3 := blk_cell hk 3
              have f0 := fun i => blk_frozen hk i
              clear hb5 hk
              go_wp2_with fail
              refine ref_ret rfl w w5 _ _ _ _ _ _ _ _ _ _ _ HB.out HK.out rfl ?_
              rw [← HO.out, HC.out]
              show _ = _
              first | rfl | simp [tokV]
          · have b1 : ((93 : Int) == (((s[p]'hp).toNat : Nat) : Int)) = false := by rw [beq_eq_false_iff_ne]; intro e; exact hc (by apply UInt8.toNat_inj.1; have : ((93 : UInt8).toNat : Int) = 93 := rfl; omega)
            have HC := Aside0.mk hc
            clear hc
            go_wp2_with fail
            refine region_facts (ws := []) (G := fun _ w' => Aside0 (w'.heap[w.heap.size]? = some (.cells #[.int .i64 0, .string ByteArray.empty, .int .i64 0, .int .i64 0] 28 (0, 0)) ∧ Below w.heap.size w w')) (φs := [Fact.eq ?va3n0, Fact.eq (.int .u8 93), Fact.eq ?va3n2, Fact.eq ?va3n3, Fact.eq ?va3n4, Fact.eq ?va3n5]) (n := 6) (m := 38) (by kernel_rfl) (by kernel_rfl) rfl rfl (by kernel_rfl) (fun _ _ _ h hb => ⟨⟨blk_below h.out.1 hb, below_then h.out.2 h.out.2.size hb⟩⟩) (⟨⟨blk_drew HR.out.1, below_drew HR.out.2⟩⟩) ⟨?oa3n0, ?oa3n1, ?oa3n2, ?oa3n3, ?oa3n4, ?oa3n5, trivial⟩ ?fina3n
            case oa3n0 =>
              refine ask_val [.fix 6 _] rfl 24 rfl (.inl rfl) ⟨⟨by kernel_rfl, by conv => lhs; whnf⟩, trivial⟩ ?_
              dsimp only [Has, Fact.eq]
              intro e ρ w' hc hf hg hG h6
              go_simp
              with_reducible rfl
            case oa3n1 =>
              refine ask_val [.op 24 0 (Fact.eq _)] rfl 25 rfl (.inl rfl) ⟨⟨by kernel_rfl, rfl⟩, trivial⟩ ?_
              dsimp only [Has, Fact.eq]
              intro e ρ w' hc hf hg hG h24
              obtain s0 := hG
              go_simp
              rfl
            case oa3n2 =>
              refine ask_val [.fix 0 _] rfl 26 rfl (.inl rfl) ⟨⟨by kernel_rfl, by conv => lhs; whnf⟩, trivial⟩ ?_
              dsimp only [Has, Fact.eq]
              intro e ρ w' hc hf hg hG h0
              go_simp
              with_reducible rfl
            case oa3n3 =>
              refine ask_val [.fix 1 _] rfl 27 rfl (.inl rfl) ⟨⟨by kernel_rfl, by conv => lhs; whnf⟩, trivial⟩ ?_
              dsimp only [Has, Fact.eq]
              intro e ρ w' hc hf hg hG h1
              go_simp
              with_reducible rfl
            case oa3n4 =>
              refine ask_val [.op 26 2 (Fact.eq _), .op 27 3 (Fact.eq _)] rfl 28 rfl (.inl rfl) ⟨⟨by kernel_rfl, rfl⟩, ⟨by kernel_rfl, rfl⟩, trivial⟩ ?_
              dsimp only [Has, Fact.eq]
              intro e ρ w' hc hf hg hG h26 h27
              obtain s0 := hG
              go_simp
              with_reducible rfl
            case oa3n5 =>
              refine ask_val [.op 25 1 (Fact.eq _), .op 28 4 (Fact.eq _)] rfl 29 rfl (.inl rfl) ⟨⟨by kernel_rfl, rfl⟩, ⟨by kernel_rfl, rfl⟩, trivial⟩ ?_
              dsimp only [Has, Fact.eq]
              intro e ρ w' hc hf hg hG h25 h28
              go_simp
              with_reducible rfl
            case fina3n =>
              intro w' hG
              refine fin_eq (fin_eq (fin_eq (fin_eq (fin_eq (fin_eq (fin_nil (a' := ?_) ?_ ?_))))))
              rotate_left
              · simp only [Act.put, List.setIfInBounds_toArray, List.set_cons_zero, List.set_cons_succ]
                rfl
              clear b1
              go_wp2_with fail
              refine ⟨⟨4, by first | rfl | go_num, by omega, hG, ⟨?_⟩⟩, by simp [intOf]⟩
              rw [show markL.take 4 = markL.take 3 ++ [93] from rfl, List.mem_append, List.mem_singleton, not_or]
              exact ⟨HN.out, HC.out⟩
        · by_cases hc : (s[p]'hp) = 124
          · have b1 : ((124 : Int) == (((s[p]'hp).toNat : Nat) : Int)) = true := by rw [hc]; rfl
            have HC := Aside0.mk hc
            clear hc
            go_wp2_with fail
            refine region_facts (ws := []) (G := fun _ w' => Aside0 (w'.heap[w.heap.size]? = some (.cells #[.int .i64 0, .string ByteArray.empty, .int .i64 0, .int .i64 0] 28 (0, 0)) ∧ Below w.heap.size w w')) (φs := [Fact.eq ?va4y0, Fact.eq (.int .u8 124), Fact.eq ?va4y2, Fact.eq ?va4y3, Fact.eq ?va4y4, Fact.eq ?va4y5]) (n := 6) (m := 38) (by kernel_rfl) (by kernel_rfl) rfl rfl (by kernel_rfl) (fun _ _ _ h hb => ⟨⟨blk_below h.out.1 hb, below_then h.out.2 h.out.2.size hb⟩⟩) (⟨⟨blk_drew HR.out.1, below_drew HR.out.2⟩⟩) ⟨?oa4y0, ?oa4y1, ?oa4y2, ?oa4y3, ?oa4y4, ?oa4y5, trivial⟩ ?fina4y
            case oa4y0 =>
              refine ask_val [.fix 6 _] rfl 24 rfl (.inl rfl) ⟨⟨by kernel_rfl, by conv => lhs; whnf⟩, trivial⟩ ?_
              dsimp only [Has, Fact.eq]
              intro e ρ w' hc hf hg hG h6
              go_simp
              with_reducible rfl
            case oa4y1 =>
              refine ask_val [.op 24 0 (Fact.eq _)] rfl 25 rfl (.inl rfl) ⟨⟨by kernel_rfl, rfl⟩, trivial⟩ ?_
              dsimp only [Has, Fact.eq]
              intro e ρ w' hc hf hg hG h24
              obtain s0 := hG
              go_simp
              rfl
            case oa4y2 =>
              refine ask_val [.fix 0 _] rfl 26 rfl (.inl rfl) ⟨⟨by kernel_rfl, by conv => lhs; whnf⟩, trivial⟩ ?_
              dsimp only [Has, Fact.eq]
              intro e ρ w' hc hf hg hG h0
              go_simp
              with_reducible rfl
            case oa4y3 =>
              refine ask_val [.fix 1 _] rfl 27 rfl (.inl rfl) ⟨⟨by kernel_rfl, by conv => lhs; whnf⟩, trivial⟩ ?_
              dsimp only [Has, Fact.eq]
              intro e ρ w' hc hf hg hG h1
              go_simp
              with_reducible rfl
            case oa4y4 =>
              refine ask_val [.op 26 2 (Fact.eq _), .op 27 3 (Fact.eq _)] rfl 28 rfl (.inl rfl) ⟨⟨by kernel_rfl, rfl⟩, ⟨by kernel_rfl, rfl⟩, trivial⟩ ?_
              dsimp only [Has, Fact.eq]
              intro e ρ w' hc hf hg hG h26 h27
              obtain s0 := hG
              go_simp
              with_reducible rfl
            case oa4y5 =>
              refine ask_val [.op 25 1 (Fact.eq _), .op 28 4 (Fact.eq _)] rfl 29 rfl (.inl rfl) ⟨⟨by kernel_rfl, rfl⟩, ⟨by kernel_rfl, rfl⟩, trivial⟩ ?_
              dsimp only [Has, Fact.eq]
              intro e ρ w' hc hf hg hG h25 h28
              go_simp
              with_reducible rfl
            case fina4y =>
              intro w' hG
              refine fin_eq (fin_eq (fin_eq (fin_eq (fin_eq (fin_eq (fin_nil (a' := ?_) ?_ ?_))))))
              rotate_left
              · simp only [Act.put, List.setIfInBounds_toArray, List.set_cons_zero, List.set_cons_succ]
                rfl
              obtain ⟨hk, hb⟩ := hG.out
              have HK := Aside0.mk hk
              have HB := Aside0.mk hb
              clear hk hb hG b1
              go_wp2_with fail
              refine (kinds_calls 4 (by omega) _).mono ?_
              rintro e w5 ⟨rfl, hb5⟩
              replace HK := Aside0.mk (blk_below HK.out hb5)
              replace HB := Aside0.mk (below_then HB.out HB.out.size hb5)
              have hk := HK.out
              have k0 := blk_cell hk 0
              have k1 := blk_cell hk 1
              have k2 := blk_cell hk 2
              have k3 := blk_cell hk 3
              have f0 := fun i => blk_frozen hk i
              clear hb5 hk
              go_wp2_with fail
              refine ref_ret rfl w w5 _ _ _ _ _ _ _ _ _ _ _ HB.out HK.out rfl ?_
              rw [← HO.out, HC.out]
              show _ = _
              first | rfl | simp [tokV]
          · have b1 : ((124 : Int) == (((s[p]'hp).toNat : Nat) : Int)) = false := by rw [beq_eq_false_iff_ne]; intro e; exact hc (by apply UInt8.toNat_inj.1; have : ((124 : UInt8).toNat : Int) = 124 := rfl; omega)
            have HC := Aside0.mk hc
            clear hc
            go_wp2_with fail
            refine region_facts (ws := []) (G := fun _ w' => Aside0 (w'.heap[w.heap.size]? = some (.cells #[.int .i64 0, .string ByteArray.empty, .int .i64 0, .int .i64 0] 28 (0, 0)) ∧ Below w.heap.size w w')) (φs := [Fact.eq ?va4n0, Fact.eq (.int .u8 124), Fact.eq ?va4n2, Fact.eq ?va4n3, Fact.eq ?va4n4, Fact.eq ?va4n5]) (n := 6) (m := 38) (by kernel_rfl) (by kernel_rfl) rfl rfl (by kernel_rfl) (fun _ _ _ h hb => ⟨⟨blk_below h.out.1 hb, below_then h.out.2 h.out.2.size hb⟩⟩) (⟨⟨blk_drew HR.out.1, below_drew HR.out.2⟩⟩) ⟨?oa4n0, ?oa4n1, ?oa4n2, ?oa4n3, ?oa4n4, ?oa4n5, trivial⟩ ?fina4n
            case oa4n0 =>
              refine ask_val [.fix 6 _] rfl 24 rfl (.inl rfl) ⟨⟨by kernel_rfl, by conv => lhs; whnf⟩, trivial⟩ ?_
              dsimp only [Has, Fact.eq]
              intro e ρ w' hc hf hg hG h6
              go_simp
              with_reducible rfl
            case oa4n1 =>
              refine ask_val [.op 24 0 (Fact.eq _)] rfl 25 rfl (.inl rfl) ⟨⟨by kernel_rfl, rfl⟩, trivial⟩ ?_
              dsimp only [Has, Fact.eq]
              intro e ρ w' hc hf hg hG h24
              obtain s0 := hG
              go_simp
              rfl
            case oa4n2 =>
              refine ask_val [.fix 0 _] rfl 26 rfl (.inl rfl) ⟨⟨by kernel_rfl, by conv => lhs; whnf⟩, trivial⟩ ?_
              dsimp only [Has, Fact.eq]
              intro e ρ w' hc hf hg hG h0
              go_simp
              with_reducible rfl
            case oa4n3 =>
              refine ask_val [.fix 1 _] rfl 27 rfl (.inl rfl) ⟨⟨by kernel_rfl, by conv => lhs; whnf⟩, trivial⟩ ?_
              dsimp only [Has, Fact.eq]
              intro e ρ w' hc hf hg hG h1
              go_simp
              with_reducible rfl
            case oa4n4 =>
              refine ask_val [.op 26 2 (Fact.eq _), .op 27 3 (Fact.eq _)] rfl 28 rfl (.inl rfl) ⟨⟨by kernel_rfl, rfl⟩, ⟨by kernel_rfl, rfl⟩, trivial⟩ ?_
              dsimp only [Has, Fact.eq]
              intro e ρ w' hc hf hg hG h26 h27
              obtain s0 := hG
              go_simp
              with_reducible rfl
            case oa4n5 =>
              refine ask_val [.op 25 1 (Fact.eq _), .op 28 4 (Fact.eq _)] rfl 29 rfl (.inl rfl) ⟨⟨by kernel_rfl, rfl⟩, ⟨by kernel_rfl, rfl⟩, trivial⟩ ?_
              dsimp only [Has, Fact.eq]
              intro e ρ w' hc hf hg hG h25 h28
              go_simp
              with_reducible rfl
            case fina4n =>
              intro w' hG
              refine fin_eq (fin_eq (fin_eq (fin_eq (fin_eq (fin_eq (fin_nil (a' := ?_) ?_ ?_))))))
              rotate_left
              · simp only [Act.put, List.setIfInBounds_toArray, List.set_cons_zero, List.set_cons_succ]
                rfl
              clear b1
              go_wp2_with fail
              refine ⟨⟨5, by first | rfl | go_num, by omega, hG, ⟨?_⟩⟩, by simp [intOf]⟩
              rw [show markL.take 5 = markL.take 4 ++ [124] from rfl, List.mem_append, List.mem_singleton, not_or]
              exact ⟨HN.out, HC.out⟩
        · by_cases hc : (s[p]'hp) = 58
          · have b1 : ((58 : Int) == (((s[p]'hp).toNat : Nat) : Int)) = true := by rw [hc]; rfl
            have HC := Aside0.mk hc
            clear hc
            go_wp2_with fail
            refine region_facts (ws := []) (G := fun _ w' => Aside0 (w'.heap[w.heap.size]? = some (.cells #[.int .i64 0, .string ByteArray.empty, .int .i64 0, .int .i64 0] 28 (0, 0)) ∧ Below w.heap.size w w')) (φs := [Fact.eq ?va5y0, Fact.eq (.int .u8 58), Fact.eq ?va5y2, Fact.eq ?va5y3, Fact.eq ?va5y4, Fact.eq ?va5y5]) (n := 6) (m := 38) (by kernel_rfl) (by kernel_rfl) rfl rfl (by kernel_rfl) (fun _ _ _ h hb => ⟨⟨blk_below h.out.1 hb, below_then h.out.2 h.out.2.size hb⟩⟩) (⟨⟨blk_drew HR.out.1, below_drew HR.out.2⟩⟩) ⟨?oa5y0, ?oa5y1, ?oa5y2, ?oa5y3, ?oa5y4, ?oa5y5, trivial⟩ ?fina5y
            case oa5y0 =>
              refine ask_val [.fix 6 _] rfl 24 rfl (.inl rfl) ⟨⟨by kernel_rfl, by conv => lhs; whnf⟩, trivial⟩ ?_
              dsimp only [Has, Fact.eq]
              intro e ρ w' hc hf hg hG h6
              go_simp
              with_reducible rfl
            case oa5y1 =>
              refine ask_val [.op 24 0 (Fact.eq _)] rfl 25 rfl (.inl rfl) ⟨⟨by kernel_rfl, rfl⟩, trivial⟩ ?_
              dsimp only [Has, Fact.eq]
              intro e ρ w' hc hf hg hG h24
              obtain s0 := hG
              go_simp
              rfl
            case oa5y2 =>
              refine ask_val [.fix 0 _] rfl 26 rfl (.inl rfl) ⟨⟨by kernel_rfl, by conv => lhs; whnf⟩, trivial⟩ ?_
              dsimp only [Has, Fact.eq]
              intro e ρ w' hc hf hg hG h0
              go_simp
              with_reducible rfl
            case oa5y3 =>
              refine ask_val [.fix 1 _] rfl 27 rfl (.inl rfl) ⟨⟨by kernel_rfl, by conv => lhs; whnf⟩, trivial⟩ ?_
              dsimp only [Has, Fact.eq]
              intro e ρ w' hc hf hg hG h1
              go_simp
              with_reducible rfl
            case oa5y4 =>
              refine ask_val [.op 26 2 (Fact.eq _), .op 27 3 (Fact.eq _)] rfl 28 rfl (.inl rfl) ⟨⟨by kernel_rfl, rfl⟩, ⟨by kernel_rfl, rfl⟩, trivial⟩ ?_
              dsimp only [Has, Fact.eq]
              intro e ρ w' hc hf hg hG h26 h27
              obtain s0 := hG
              go_simp
              with_reducible rfl
            case oa5y5 =>
              refine ask_val [.op 25 1 (Fact.eq _), .op 28 4 (Fact.eq _)] rfl 29 rfl (.inl rfl) ⟨⟨by kernel_rfl, rfl⟩, ⟨by kernel_rfl, rfl⟩, trivial⟩ ?_
              dsimp only [Has, Fact.eq]
              intro e ρ w' hc hf hg hG h25 h28
              go_simp
              with_reducible rfl
            case fina5y =>
              intro w' hG
              refine fin_eq (fin_eq (fin_eq (fin_eq (fin_eq (fin_eq (fin_nil (a' := ?_) ?_ ?_))))))
              rotate_left
              · simp only [Act.put, List.setIfInBounds_toArray, List.set_cons_zero, List.set_cons_succ]
                rfl
              obtain ⟨hk, hb⟩ := hG.out
              have HK := Aside0.mk hk
              have HB := Aside0.mk hb
              clear hk hb hG b1
              go_wp2_with fail
              refine (kinds_calls 5 (by omega) _).mono ?_
              rintro e w5 ⟨rfl, hb5⟩
              replace HK := Aside0.mk (blk_below HK.out hb5)
              replace HB := Aside0.mk (below_then HB.out HB.out.size hb5)
              have hk := HK.out
              have k0 := blk_cell hk 0
              have k1 := blk_cell hk 1
              have k2 := blk_cell hk 2
              have k3 := blk_cell hk 3
              have f0 := fun i => blk_frozen hk i
              clear hb5 hk
              go_wp2_with fail
              refine ref_ret rfl w w5 _ _ _ _ _ _ _ _ _ _ _ HB.out HK.out rfl ?_
              rw [← HO.out, HC.out]
              show _ = _
              first | rfl | simp [tokV]
          · have b1 : ((58 : Int) == (((s[p]'hp).toNat : Nat) : Int)) = false := by rw [beq_eq_false_iff_ne]; intro e; exact hc (by apply UInt8.toNat_inj.1; have : ((58 : UInt8).toNat : Int) = 58 := rfl; omega)
            have HC := Aside0.mk hc
            clear hc
            go_wp2_with fail
            refine region_facts (ws := []) (G := fun _ w' => Aside0 (w'.heap[w.heap.size]? = some (.cells #[.int .i64 0, .string ByteArray.empty, .int .i64 0, .int .i64 0] 28 (0, 0)) ∧ Below w.heap.size w w')) (φs := [Fact.eq ?va5n0, Fact.eq (.int .u8 58), Fact.eq ?va5n2, Fact.eq ?va5n3, Fact.eq ?va5n4, Fact.eq ?va5n5]) (n := 6) (m := 38) (by kernel_rfl) (by kernel_rfl) rfl rfl (by kernel_rfl) (fun _ _ _ h hb => ⟨⟨blk_below h.out.1 hb, below_then h.out.2 h.out.2.size hb⟩⟩) (⟨⟨blk_drew HR.out.1, below_drew HR.out.2⟩⟩) ⟨?oa5n0, ?oa5n1, ?oa5n2, ?oa5n3, ?oa5n4, ?oa5n5, trivial⟩ ?fina5n
            case oa5n0 =>
              refine ask_val [.fix 6 _] rfl 24 rfl (.inl rfl) ⟨⟨by kernel_rfl, by conv => lhs; whnf⟩, trivial⟩ ?_
              dsimp only [Has, Fact.eq]
              intro e ρ w' hc hf hg hG h6
              go_simp
              with_reducible rfl
            case oa5n1 =>
              refine ask_val [.op 24 0 (Fact.eq _)] rfl 25 rfl (.inl rfl) ⟨⟨by kernel_rfl, rfl⟩, trivial⟩ ?_
              dsimp only [Has, Fact.eq]
              intro e ρ w' hc hf hg hG h24
              obtain s0 := hG
              go_simp
              rfl
            case oa5n2 =>
              refine ask_val [.fix 0 _] rfl 26 rfl (.inl rfl) ⟨⟨by kernel_rfl, by conv => lhs; whnf⟩, trivial⟩ ?_
              dsimp only [Has, Fact.eq]
              intro e ρ w' hc hf hg hG h0
              go_simp
              with_reducible rfl
            case oa5n3 =>
              refine ask_val [.fix 1 _] rfl 27 rfl (.inl rfl) ⟨⟨by kernel_rfl, by conv => lhs; whnf⟩, trivial⟩ ?_
              dsimp only [Has, Fact.eq]
              intro e ρ w' hc hf hg hG h1
              go_simp
              with_reducible rfl
            case oa5n4 =>
              refine ask_val [.op 26 2 (Fact.eq _), .op 27 3 (Fact.eq _)] rfl 28 rfl (.inl rfl) ⟨⟨by kernel_rfl, rfl⟩, ⟨by kernel_rfl, rfl⟩, trivial⟩ ?_
              dsimp only [Has, Fact.eq]
              intro e ρ w' hc hf hg hG h26 h27
              obtain s0 := hG
              go_simp
              with_reducible rfl
            case oa5n5 =>
              refine ask_val [.op 25 1 (Fact.eq _), .op 28 4 (Fact.eq _)] rfl 29 rfl (.inl rfl) ⟨⟨by kernel_rfl, rfl⟩, ⟨by kernel_rfl, rfl⟩, trivial⟩ ?_
              dsimp only [Has, Fact.eq]
              intro e ρ w' hc hf hg hG h25 h28
              go_simp
              with_reducible rfl
            case fina5n =>
              intro w' hG
              refine fin_eq (fin_eq (fin_eq (fin_eq (fin_eq (fin_eq (fin_nil (a' := ?_) ?_ ?_))))))
              rotate_left
              · simp only [Act.put, List.setIfInBounds_toArray, List.set_cons_zero, List.set_cons_succ]
                rfl
              clear b1
              go_wp2_with fail
              refine ⟨⟨6, by first | rfl | go_num, by omega, hG, ⟨?_⟩⟩, by simp [intOf]⟩
              rw [show markL.take 6 = markL.take 5 ++ [58] from rfl, List.mem_append, List.mem_singleton, not_or]
              exact ⟨HN.out, HC.out⟩
        · by_cases hc : (s[p]'hp) = 94
          · have b1 : ((94 : Int) == (((s[p]'hp).toNat : Nat) : Int)) = true := by rw [hc]; rfl
            have HC := Aside0.mk hc
            clear hc
            go_wp2_with fail
            refine region_facts (ws := []) (G := fun _ w' => Aside0 (w'.heap[w.heap.size]? = some (.cells #[.int .i64 0, .string ByteArray.empty, .int .i64 0, .int .i64 0] 28 (0, 0)) ∧ Below w.heap.size w w')) (φs := [Fact.eq ?va6y0, Fact.eq (.int .u8 94), Fact.eq ?va6y2, Fact.eq ?va6y3, Fact.eq ?va6y4, Fact.eq ?va6y5]) (n := 6) (m := 38) (by kernel_rfl) (by kernel_rfl) rfl rfl (by kernel_rfl) (fun _ _ _ h hb => ⟨⟨blk_below h.out.1 hb, below_then h.out.2 h.out.2.size hb⟩⟩) (⟨⟨blk_drew HR.out.1, below_drew HR.out.2⟩⟩) ⟨?oa6y0, ?oa6y1, ?oa6y2, ?oa6y3, ?oa6y4, ?oa6y5, trivial⟩ ?fina6y
            case oa6y0 =>
              refine ask_val [.fix 6 _] rfl 24 rfl (.inl rfl) ⟨⟨by kernel_rfl, by conv => lhs; whnf⟩, trivial⟩ ?_
              dsimp only [Has, Fact.eq]
              intro e ρ w' hc hf hg hG h6
              go_simp
              with_reducible rfl
            case oa6y1 =>
              refine ask_val [.op 24 0 (Fact.eq _)] rfl 25 rfl (.inl rfl) ⟨⟨by kernel_rfl, rfl⟩, trivial⟩ ?_
              dsimp only [Has, Fact.eq]
              intro e ρ w' hc hf hg hG h24
              obtain s0 := hG
              go_simp
              rfl
            case oa6y2 =>
              refine ask_val [.fix 0 _] rfl 26 rfl (.inl rfl) ⟨⟨by kernel_rfl, by conv => lhs; whnf⟩, trivial⟩ ?_
              dsimp only [Has, Fact.eq]
              intro e ρ w' hc hf hg hG h0
              go_simp
              with_reducible rfl
            case oa6y3 =>
              refine ask_val [.fix 1 _] rfl 27 rfl (.inl rfl) ⟨⟨by kernel_rfl, by conv => lhs; whnf⟩, trivial⟩ ?_
              dsimp only [Has, Fact.eq]
              intro e ρ w' hc hf hg hG h1
              go_simp
              with_reducible rfl
            case oa6y4 =>
              refine ask_val [.op 26 2 (Fact.eq _), .op 27 3 (Fact.eq _)] rfl 28 rfl (.inl rfl) ⟨⟨by kernel_rfl, rfl⟩, ⟨by kernel_rfl, rfl⟩, trivial⟩ ?_
              dsimp only [Has, Fact.eq]
              intro e ρ w' hc hf hg hG h26 h27
              obtain s0 := hG
              go_simp
              with_reducible rfl
            case oa6y5 =>
              refine ask_val [.op 25 1 (Fact.eq _), .op 28 4 (Fact.eq _)] rfl 29 rfl (.inl rfl) ⟨⟨by kernel_rfl, rfl⟩, ⟨by kernel_rfl, rfl⟩, trivial⟩ ?_
              dsimp only [Has, Fact.eq]
              intro e ρ w' hc hf hg hG h25 h28
              go_simp
              with_reducible rfl
            case fina6y =>
              intro w' hG
              refine fin_eq (fin_eq (fin_eq (fin_eq (fin_eq (fin_eq (fin_nil (a' := ?_) ?_ ?_))))))
              rotate_left
              · simp only [Act.put, List.setIfInBounds_toArray, List.set_cons_zero, List.set_cons_succ]
                rfl
              obtain ⟨hk, hb⟩ := hG.out
              have HK := Aside0.mk hk
              have HB := Aside0.mk hb
              clear hk hb hG b1
              go_wp2_with fail
              refine (kinds_calls 6 (by omega) _).mono ?_
              rintro e w5 ⟨rfl, hb5⟩
              replace HK := Aside0.mk (blk_below HK.out hb5)
              replace HB := Aside0.mk (below_then HB.out HB.out.size hb5)
              have hk := HK.out
              have k0 := blk_cell hk 0
              have k1 := blk_cell hk 1
              have k2 := blk_cell hk 2
              have k3 := blk_cell hk 3
              have f0 := fun i => blk_frozen hk i
              clear hb5 hk
              go_wp2_with fail
              refine ref_ret rfl w w5 _ _ _ _ _ _ _ _ _ _ _ HB.out HK.out rfl ?_
              rw [← HO.out, HC.out]
              show _ = _
              first | rfl | simp [tokV]
          · have b1 : ((94 : Int) == (((s[p]'hp).toNat : Nat) : Int)) = false := by rw [beq_eq_false_iff_ne]; intro e; exact hc (by apply UInt8.toNat_inj.1; have : ((94 : UInt8).toNat : Int) = 94 := rfl; omega)
            have HC := Aside0.mk hc
            clear hc
            go_wp2_with fail
            refine region_facts (ws := []) (G := fun _ w' => Aside0 (w'.heap[w.heap.size]? = some (.cells #[.int .i64 0, .string ByteArray.empty, .int .i64 0, .int .i64 0] 28 (0, 0)) ∧ Below w.heap.size w w')) (φs := [Fact.eq ?va6n0, Fact.eq (.int .u8 94), Fact.eq ?va6n2, Fact.eq ?va6n3, Fact.eq ?va6n4, Fact.eq ?va6n5]) (n := 6) (m := 38) (by kernel_rfl) (by kernel_rfl) rfl rfl (by kernel_rfl) (fun _ _ _ h hb => ⟨⟨blk_below h.out.1 hb, below_then h.out.2 h.out.2.size hb⟩⟩) (⟨⟨blk_drew HR.out.1, below_drew HR.out.2⟩⟩) ⟨?oa6n0, ?oa6n1, ?oa6n2, ?oa6n3, ?oa6n4, ?oa6n5, trivial⟩ ?fina6n
            case oa6n0 =>
              refine ask_val [.fix 6 _] rfl 24 rfl (.inl rfl) ⟨⟨by kernel_rfl, by conv => lhs; whnf⟩, trivial⟩ ?_
              dsimp only [Has, Fact.eq]
              intro e ρ w' hc hf hg hG h6
              go_simp
              with_reducible rfl
            case oa6n1 =>
              refine ask_val [.op 24 0 (Fact.eq _)] rfl 25 rfl (.inl rfl) ⟨⟨by kernel_rfl, rfl⟩, trivial⟩ ?_
              dsimp only [Has, Fact.eq]
              intro e ρ w' hc hf hg hG h24
              obtain s0 := hG
              go_simp
              rfl
            case oa6n2 =>
              refine ask_val [.fix 0 _] rfl 26 rfl (.inl rfl) ⟨⟨by kernel_rfl, by conv => lhs; whnf⟩, trivial⟩ ?_
              dsimp only [Has, Fact.eq]
              intro e ρ w' hc hf hg hG h0
              go_simp
              with_reducible rfl
            case oa6n3 =>
              refine ask_val [.fix 1 _] rfl 27 rfl (.inl rfl) ⟨⟨by kernel_rfl, by conv => lhs; whnf⟩, trivial⟩ ?_
              dsimp only [Has, Fact.eq]
              intro e ρ w' hc hf hg hG h1
              go_simp
              with_reducible rfl
            case oa6n4 =>
              refine ask_val [.op 26 2 (Fact.eq _), .op 27 3 (Fact.eq _)] rfl 28 rfl (.inl rfl) ⟨⟨by kernel_rfl, rfl⟩, ⟨by kernel_rfl, rfl⟩, trivial⟩ ?_
              dsimp only [Has, Fact.eq]
              intro e ρ w' hc hf hg hG h26 h27
              obtain s0 := hG
              go_simp
              with_reducible rfl
            case oa6n5 =>
              refine ask_val [.op 25 1 (Fact.eq _), .op 28 4 (Fact.eq _)] rfl 29 rfl (.inl rfl) ⟨⟨by kernel_rfl, rfl⟩, ⟨by kernel_rfl, rfl⟩, trivial⟩ ?_
              dsimp only [Has, Fact.eq]
              intro e ρ w' hc hf hg hG h25 h28
              go_simp
              with_reducible rfl
            case fina6n =>
              intro w' hG
              refine fin_eq (fin_eq (fin_eq (fin_eq (fin_eq (fin_eq (fin_nil (a' := ?_) ?_ ?_))))))
              rotate_left
              · simp only [Act.put, List.setIfInBounds_toArray, List.set_cons_zero, List.set_cons_succ]
                rfl
              clear b1
              go_wp2_with fail
              refine ⟨⟨7, by first | rfl | go_num, by omega, hG, ⟨?_⟩⟩, by simp [intOf]⟩
              rw [show markL.take 7 = markL.take 6 ++ [94] from rfl, List.mem_append, List.mem_singleton, not_or]
              exact ⟨HN.out, HC.out⟩
        · by_cases hc : (s[p]'hp) = 46
          · have b1 : ((46 : Int) == (((s[p]'hp).toNat : Nat) : Int)) = true := by rw [hc]; rfl
            have HC := Aside0.mk hc
            clear hc
            go_wp2_with fail
            refine region_facts (ws := []) (G := fun _ w' => Aside0 (w'.heap[w.heap.size]? = some (.cells #[.int .i64 0, .string ByteArray.empty, .int .i64 0, .int .i64 0] 28 (0, 0)) ∧ Below w.heap.size w w')) (φs := [Fact.eq ?va7y0, Fact.eq (.int .u8 46), Fact.eq ?va7y2, Fact.eq ?va7y3, Fact.eq ?va7y4, Fact.eq ?va7y5]) (n := 6) (m := 38) (by kernel_rfl) (by kernel_rfl) rfl rfl (by kernel_rfl) (fun _ _ _ h hb => ⟨⟨blk_below h.out.1 hb, below_then h.out.2 h.out.2.size hb⟩⟩) (⟨⟨blk_drew HR.out.1, below_drew HR.out.2⟩⟩) ⟨?oa7y0, ?oa7y1, ?oa7y2, ?oa7y3, ?oa7y4, ?oa7y5, trivial⟩ ?fina7y
            case oa7y0 =>
              refine ask_val [.fix 6 _] rfl 24 rfl (.inl rfl) ⟨⟨by kernel_rfl, by conv => lhs; whnf⟩, trivial⟩ ?_
              dsimp only [Has, Fact.eq]
              intro e ρ w' hc hf hg hG h6
              go_simp
              with_reducible rfl
            case oa7y1 =>
              refine ask_val [.op 24 0 (Fact.eq _)] rfl 25 rfl (.inl rfl) ⟨⟨by kernel_rfl, rfl⟩, trivial⟩ ?_
              dsimp only [Has, Fact.eq]
              intro e ρ w' hc hf hg hG h24
              obtain s0 := hG
              go_simp
              rfl
            case oa7y2 =>
              refine ask_val [.fix 0 _] rfl 26 rfl (.inl rfl) ⟨⟨by kernel_rfl, by conv => lhs; whnf⟩, trivial⟩ ?_
              dsimp only [Has, Fact.eq]
              intro e ρ w' hc hf hg hG h0
              go_simp
              with_reducible rfl
            case oa7y3 =>
              refine ask_val [.fix 1 _] rfl 27 rfl (.inl rfl) ⟨⟨by kernel_rfl, by conv => lhs; whnf⟩, trivial⟩ ?_
              dsimp only [Has, Fact.eq]
              intro e ρ w' hc hf hg hG h1
              go_simp
              with_reducible rfl
            case oa7y4 =>
              refine ask_val [.op 26 2 (Fact.eq _), .op 27 3 (Fact.eq _)] rfl 28 rfl (.inl rfl) ⟨⟨by kernel_rfl, rfl⟩, ⟨by kernel_rfl, rfl⟩, trivial⟩ ?_
              dsimp only [Has, Fact.eq]
              intro e ρ w' hc hf hg hG h26 h27
              obtain s0 := hG
              go_simp
              with_reducible rfl
            case oa7y5 =>
              refine ask_val [.op 25 1 (Fact.eq _), .op 28 4 (Fact.eq _)] rfl 29 rfl (.inl rfl) ⟨⟨by kernel_rfl, rfl⟩, ⟨by kernel_rfl, rfl⟩, trivial⟩ ?_
              dsimp only [Has, Fact.eq]
              intro e ρ w' hc hf hg hG h25 h28
              go_simp
              with_reducible rfl
            case fina7y =>
              intro w' hG
              refine fin_eq (fin_eq (fin_eq (fin_eq (fin_eq (fin_eq (fin_nil (a' := ?_) ?_ ?_))))))
              rotate_left
              · simp only [Act.put, List.setIfInBounds_toArray, List.set_cons_zero, List.set_cons_succ]
                rfl
              obtain ⟨hk, hb⟩ := hG.out
              have HK := Aside0.mk hk
              have HB := Aside0.mk hb
              clear hk hb hG b1
              go_wp2_with fail
              refine (kinds_calls 7 (by omega) _).mono ?_
              rintro e w5 ⟨rfl, hb5⟩
              replace HK := Aside0.mk (blk_below HK.out hb5)
              replace HB := Aside0.mk (below_then HB.out HB.out.size hb5)
              have hk := HK.out
              have k0 := blk_cell hk 0
              have k1 := blk_cell hk 1
              have k2 := blk_cell hk 2
              have k3 := blk_cell hk 3
              have f0 := fun i => blk_frozen hk i
              clear hb5 hk
              go_wp2_with fail
              refine ref_ret rfl w w5 _ _ _ _ _ _ _ _ _ _ _ HB.out HK.out rfl ?_
              rw [← HO.out, HC.out]
              show _ = _
              first | rfl | simp [tokV]
          · have b1 : ((46 : Int) == (((s[p]'hp).toNat : Nat) : Int)) = false := by rw [beq_eq_false_iff_ne]; intro e; exact hc (by apply UInt8.toNat_inj.1; have : ((46 : UInt8).toNat : Int) = 46 := rfl; omega)
            have HC := Aside0.mk hc
            clear hc
            go_wp2_with fail
            refine region_facts (ws := []) (G := fun _ w' => Aside0 (w'.heap[w.heap.size]? = some (.cells #[.int .i64 0, .string ByteArray.empty, .int .i64 0, .int .i64 0] 28 (0, 0)) ∧ Below w.heap.size w w')) (φs := [Fact.eq ?va7n0, Fact.eq (.int .u8 46), Fact.eq ?va7n2, Fact.eq ?va7n3, Fact.eq ?va7n4, Fact.eq ?va7n5]) (n := 6) (m := 38) (by kernel_rfl) (by kernel_rfl) rfl rfl (by kernel_rfl) (fun _ _ _ h hb => ⟨⟨blk_below h.out.1 hb, below_then h.out.2 h.out.2.size hb⟩⟩) (⟨⟨blk_drew HR.out.1, below_drew HR.out.2⟩⟩) ⟨?oa7n0, ?oa7n1, ?oa7n2, ?oa7n3, ?oa7n4, ?oa7n5, trivial⟩ ?fina7n
            case oa7n0 =>
              refine ask_val [.fix 6 _] rfl 24 rfl (.inl rfl) ⟨⟨by kernel_rfl, by conv => lhs; whnf⟩, trivial⟩ ?_
              dsimp only [Has, Fact.eq]
              intro e ρ w' hc hf hg hG h6
              go_simp
              with_reducible rfl
            case oa7n1 =>
              refine ask_val [.op 24 0 (Fact.eq _)] rfl 25 rfl (.inl rfl) ⟨⟨by kernel_rfl, rfl⟩, trivial⟩ ?_
              dsimp only [Has, Fact.eq]
              intro e ρ w' hc hf hg hG h24
              obtain s0 := hG
              go_simp
              rfl
            case oa7n2 =>
              refine ask_val [.fix 0 _] rfl 26 rfl (.inl rfl) ⟨⟨by kernel_rfl, by conv => lhs; whnf⟩, trivial⟩ ?_
              dsimp only [Has, Fact.eq]
              intro e ρ w' hc hf hg hG h0
              go_simp
              with_reducible rfl
            case oa7n3 =>
              refine ask_val [.fix 1 _] rfl 27 rfl (.inl rfl) ⟨⟨by kernel_rfl, by conv => lhs; whnf⟩, trivial⟩ ?_
              dsimp only [Has, Fact.eq]
              intro e ρ w' hc hf hg hG h1
              go_simp
              with_reducible rfl
            case oa7n4 =>
              refine ask_val [.op 26 2 (Fact.eq _), .op 27 3 (Fact.eq _)] rfl 28 rfl (.inl rfl) ⟨⟨by kernel_rfl, rfl⟩, ⟨by kernel_rfl, rfl⟩, trivial⟩ ?_
              dsimp only [Has, Fact.eq]
              intro e ρ w' hc hf hg hG h26 h27
              obtain s0 := hG
              go_simp
              with_reducible rfl
            case oa7n5 =>
              refine ask_val [.op 25 1 (Fact.eq _), .op 28 4 (Fact.eq _)] rfl 29 rfl (.inl rfl) ⟨⟨by kernel_rfl, rfl⟩, ⟨by kernel_rfl, rfl⟩, trivial⟩ ?_
              dsimp only [Has, Fact.eq]
              intro e ρ w' hc hf hg hG h25 h28
              go_simp
              with_reducible rfl
            case fina7n =>
              intro w' hG
              refine fin_eq (fin_eq (fin_eq (fin_eq (fin_eq (fin_eq (fin_nil (a' := ?_) ?_ ?_))))))
              rotate_left
              · simp only [Act.put, List.setIfInBounds_toArray, List.set_cons_zero, List.set_cons_succ]
                rfl
              clear b1
              go_wp2_with fail
              refine ⟨⟨8, by first | rfl | go_num, by omega, hG, ⟨?_⟩⟩, by simp [intOf]⟩
              rw [show markL.take 8 = markL.take 7 ++ [46] from rfl, List.mem_append, List.mem_singleton, not_or]
              exact ⟨HN.out, HC.out⟩
        · by_cases hc : (s[p]'hp) = 59
          · have b1 : ((59 : Int) == (((s[p]'hp).toNat : Nat) : Int)) = true := by rw [hc]; rfl
            have HC := Aside0.mk hc
            clear hc
            go_wp2_with fail
            refine region_facts (ws := []) (G := fun _ w' => Aside0 (w'.heap[w.heap.size]? = some (.cells #[.int .i64 0, .string ByteArray.empty, .int .i64 0, .int .i64 0] 28 (0, 0)) ∧ Below w.heap.size w w')) (φs := [Fact.eq ?va8y0, Fact.eq (.int .u8 59), Fact.eq ?va8y2, Fact.eq ?va8y3, Fact.eq ?va8y4, Fact.eq ?va8y5]) (n := 6) (m := 38) (by kernel_rfl) (by kernel_rfl) rfl rfl (by kernel_rfl) (fun _ _ _ h hb => ⟨⟨blk_below h.out.1 hb, below_then h.out.2 h.out.2.size hb⟩⟩) (⟨⟨blk_drew HR.out.1, below_drew HR.out.2⟩⟩) ⟨?oa8y0, ?oa8y1, ?oa8y2, ?oa8y3, ?oa8y4, ?oa8y5, trivial⟩ ?fina8y
            case oa8y0 =>
              refine ask_val [.fix 6 _] rfl 24 rfl (.inl rfl) ⟨⟨by kernel_rfl, by conv => lhs; whnf⟩, trivial⟩ ?_
              dsimp only [Has, Fact.eq]
              intro e ρ w' hc hf hg hG h6
              go_simp
              with_reducible rfl
            case oa8y1 =>
              refine ask_val [.op 24 0 (Fact.eq _)] rfl 25 rfl (.inl rfl) ⟨⟨by kernel_rfl, rfl⟩, trivial⟩ ?_
              dsimp only [Has, Fact.eq]
              intro e ρ w' hc hf hg hG h24
              obtain s0 := hG
              go_simp
              rfl
            case oa8y2 =>
              refine ask_val [.fix 0 _] rfl 26 rfl (.inl rfl) ⟨⟨by kernel_rfl, by conv => lhs; whnf⟩, trivial⟩ ?_
              dsimp only [Has, Fact.eq]
              intro e ρ w' hc hf hg hG h0
              go_simp
              with_reducible rfl
            case oa8y3 =>
              refine ask_val [.fix 1 _] rfl 27 rfl (.inl rfl) ⟨⟨by kernel_rfl, by conv => lhs; whnf⟩, trivial⟩ ?_
              dsimp only [Has, Fact.eq]
              intro e ρ w' hc hf hg hG h1
              go_simp
              with_reducible rfl
            case oa8y4 =>
              refine ask_val [.op 26 2 (Fact.eq _), .op 27 3 (Fact.eq _)] rfl 28 rfl (.inl rfl) ⟨⟨by kernel_rfl, rfl⟩, ⟨by kernel_rfl, rfl⟩, trivial⟩ ?_
              dsimp only [Has, Fact.eq]
              intro e ρ w' hc hf hg hG h26 h27
              obtain s0 := hG
              go_simp
              with_reducible rfl
            case oa8y5 =>
              refine ask_val [.op 25 1 (Fact.eq _), .op 28 4 (Fact.eq _)] rfl 29 rfl (.inl rfl) ⟨⟨by kernel_rfl, rfl⟩, ⟨by kernel_rfl, rfl⟩, trivial⟩ ?_
              dsimp only [Has, Fact.eq]
              intro e ρ w' hc hf hg hG h25 h28
              go_simp
              with_reducible rfl
            case fina8y =>
              intro w' hG
              refine fin_eq (fin_eq (fin_eq (fin_eq (fin_eq (fin_eq (fin_nil (a' := ?_) ?_ ?_))))))
              rotate_left
              · simp only [Act.put, List.setIfInBounds_toArray, List.set_cons_zero, List.set_cons_succ]
                rfl
              obtain ⟨hk, hb⟩ := hG.out
              have HK := Aside0.mk hk
              have HB := Aside0.mk hb
              clear hk hb hG b1
              go_wp2_with fail
              refine (kinds_calls 8 (by omega) _).mono ?_
              rintro e w5 ⟨rfl, hb5⟩
              replace HK := Aside0.mk (blk_below HK.out hb5)
              replace HB := Aside0.mk (below_then HB.out HB.out.size hb5)
              have hk := HK.out
              have k0 := blk_cell hk 0
              have k1 := blk_cell hk 1
              have k2 := blk_cell hk 2
              have k3 := blk_cell hk 3
              have f0 := fun i => blk_frozen hk i
              clear hb5 hk
              go_wp2_with fail
              refine ref_ret rfl w w5 _ _ _ _ _ _ _ _ _ _ _ HB.out HK.out rfl ?_
              rw [← HO.out, HC.out]
              show _ = _
              first | rfl | simp [tokV]
          · have b1 : ((59 : Int) == (((s[p]'hp).toNat : Nat) : Int)) = false := by rw [beq_eq_false_iff_ne]; intro e; exact hc (by apply UInt8.toNat_inj.1; have : ((59 : UInt8).toNat : Int) = 59 := rfl; omega)
            have HC := Aside0.mk hc
            clear hc
            go_wp2_with fail
            refine region_facts (ws := []) (G := fun _ w' => Aside0 (w'.heap[w.heap.size]? = some (.cells #[.int .i64 0, .string ByteArray.empty, .int .i64 0, .int .i64 0] 28 (0, 0)) ∧ Below w.heap.size w w')) (φs := [Fact.eq ?va8n0, Fact.eq (.int .u8 59), Fact.eq ?va8n2, Fact.eq ?va8n3, Fact.eq ?va8n4, Fact.eq ?va8n5]) (n := 6) (m := 38) (by kernel_rfl) (by kernel_rfl) rfl rfl (by kernel_rfl) (fun _ _ _ h hb => ⟨⟨blk_below h.out.1 hb, below_then h.out.2 h.out.2.size hb⟩⟩) (⟨⟨blk_drew HR.out.1, below_drew HR.out.2⟩⟩) ⟨?oa8n0, ?oa8n1, ?oa8n2, ?oa8n3, ?oa8n4, ?oa8n5, trivial⟩ ?fina8n
            case oa8n0 =>
              refine ask_val [.fix 6 _] rfl 24 rfl (.inl rfl) ⟨⟨by kernel_rfl, by conv => lhs; whnf⟩, trivial⟩ ?_
              dsimp only [Has, Fact.eq]
              intro e ρ w' hc hf hg hG h6
              go_simp
              with_reducible rfl
            case oa8n1 =>
              refine ask_val [.op 24 0 (Fact.eq _)] rfl 25 rfl (.inl rfl) ⟨⟨by kernel_rfl, rfl⟩, trivial⟩ ?_
              dsimp only [Has, Fact.eq]
              intro e ρ w' hc hf hg hG h24
              obtain s0 := hG
              go_simp
              rfl
            case oa8n2 =>
              refine ask_val [.fix 0 _] rfl 26 rfl (.inl rfl) ⟨⟨by kernel_rfl, by conv => lhs; whnf⟩, trivial⟩ ?_
              dsimp only [Has, Fact.eq]
              intro e ρ w' hc hf hg hG h0
              go_simp
              with_reducible rfl
            case oa8n3 =>
              refine ask_val [.fix 1 _] rfl 27 rfl (.inl rfl) ⟨⟨by kernel_rfl, by conv => lhs; whnf⟩, trivial⟩ ?_
              dsimp only [Has, Fact.eq]
              intro e ρ w' hc hf hg hG h1
              go_simp
              with_reducible rfl
            case oa8n4 =>
              refine ask_val [.op 26 2 (Fact.eq _), .op 27 3 (Fact.eq _)] rfl 28 rfl (.inl rfl) ⟨⟨by kernel_rfl, rfl⟩, ⟨by kernel_rfl, rfl⟩, trivial⟩ ?_
              dsimp only [Has, Fact.eq]
              intro e ρ w' hc hf hg hG h26 h27
              obtain s0 := hG
              go_simp
              with_reducible rfl
            case oa8n5 =>
              refine ask_val [.op 25 1 (Fact.eq _), .op 28 4 (Fact.eq _)] rfl 29 rfl (.inl rfl) ⟨⟨by kernel_rfl, rfl⟩, ⟨by kernel_rfl, rfl⟩, trivial⟩ ?_
              dsimp only [Has, Fact.eq]
              intro e ρ w' hc hf hg hG h25 h28
              go_simp
              with_reducible rfl
            case fina8n =>
              intro w' hG
              refine fin_eq (fin_eq (fin_eq (fin_eq (fin_eq (fin_eq (fin_nil (a' := ?_) ?_ ?_))))))
              rotate_left
              · simp only [Act.put, List.setIfInBounds_toArray, List.set_cons_zero, List.set_cons_succ]
                rfl
              clear b1
              go_wp2_with fail
              refine ⟨⟨9, by first | rfl | go_num, by omega, hG, ⟨?_⟩⟩, by simp [intOf]⟩
              rw [show markL.take 9 = markL.take 8 ++ [59] from rfl, List.mem_append, List.mem_singleton, not_or]
              exact ⟨HN.out, HC.out⟩
      · obtain rfl : i = 9 := by omega
        have HM : Aside0 (markKind (s[p]'hp) = 0) := ⟨markL_not HN.out⟩
        have hk := HR.out.1
        have HK := Aside0.mk hk
        have k0 := blk_cell hk 0
        have k1 := blk_cell hk 1
        have k2 := blk_cell hk 2
        have k3 := blk_cell hk 3
        have f0 := fun i => blk_frozen hk i
        clear hk
        go_wp2_with fail
        rw [← HO.out, HM.out]
        refine ref_ret rfl w wr _ _ _ _ _ _ _ _ _ _ _ HR.out.2 HK.out rfl ?_
        show _ = _
        first | rfl | simp [tokV]
  | true =>
    obtain rfl : b2 = false := by simpa using h12
    clear h12
    go_enter Tryz.func80, Tryz.ntmps80
    go_wp2_with fail
    refine (refIsB H1.out _).mono ?_
    rintro e w1 ⟨rfl, hb⟩
    replace HR := Aside0.mk (And.intro (blk_below HR.out.1 hb) (below_then HR.out.2 HR.out.2.size hb))
    clear hb
    go_wp2_with fail
    refine (refIsP H2.out _).mono ?_
    rintro e w2 ⟨rfl, hb⟩
    replace HR := Aside0.mk (And.intro (blk_below HR.out.1 hb) (below_then HR.out.2 HR.out.2.size hb))
    clear hb
    go_wp2_with fail
    clear H1 H2
    go_loopw [6] (fun v6 wr => ∃ i : Nat, v6 = .int .i64 (i : Int) ∧ i ≤ 9 ∧ Aside0 (wr.heap[w.heap.size]? = some (.cells #[.int .i64 0, .string ByteArray.empty, .int .i64 0, .int .i64 0] 28 (0, 0)) ∧ Below w.heap.size w wr) ∧ Aside0 ((s[p]'hp) ∉ markL.take i)) (fun v6 _ => 9 - (intOf v6).toNat)
    case atStart => exact ⟨0, rfl, by omega, HR, ⟨by simp⟩⟩
    case round =>
      clear HR
      obtain ⟨i, rfl, hi, HR, HN⟩ := hrel
      by_cases hi9 : i < 9
      · rcases (show i = 0 ∨ i = 1 ∨ i = 2 ∨ i = 3 ∨ i = 4 ∨ i = 5 ∨ i = 6 ∨ i = 7 ∨ i = 8 by omega) with rfl | rfl | rfl | rfl | rfl | rfl | rfl | rfl | rfl
        · by_cases hc : (s[p]'hp) = 40
          · have b1 : ((40 : Int) == (((s[p]'hp).toNat : Nat) : Int)) = true := by rw [hc]; rfl
            have HC := Aside0.mk hc
            clear hc
            go_wp2_with fail
            refine region_facts (ws := []) (G := fun _ w' => Aside0 (w'.heap[w.heap.size]? = some (.cells #[.int .i64 0, .string ByteArray.empty, .int .i64 0, .int .i64 0] 28 (0, 0)) ∧ Below w.heap.size w w')) (φs := [Fact.eq ?vb0y0, Fact.eq (.int .u8 40), Fact.eq ?vb0y2, Fact.eq ?vb0y3, Fact.eq ?vb0y4, Fact.eq ?vb0y5]) (n := 6) (m := 38) (by kernel_rfl) (by kernel_rfl) rfl rfl (by kernel_rfl) (fun _ _ _ h hb => ⟨⟨blk_below h.out.1 hb, below_then h.out.2 h.out.2.size hb⟩⟩) (⟨⟨blk_drew HR.out.1, below_drew HR.out.2⟩⟩) ⟨?ob0y0, ?ob0y1, ?ob0y2, ?ob0y3, ?ob0y4, ?ob0y5, trivial⟩ ?finb0y
            case ob0y0 =>
              refine ask_val [.fix 6 _] rfl 24 rfl (.inl rfl) ⟨⟨by kernel_rfl, by conv => lhs; whnf⟩, trivial⟩ ?_
              dsimp only [Has, Fact.eq]
              intro e ρ w' hc hf hg hG h6
              go_simp
              with_reducible rfl
            case ob0y1 =>
              refine ask_val [.op 24 0 (Fact.eq _)] rfl 25 rfl (.inl rfl) ⟨⟨by kernel_rfl, rfl⟩, trivial⟩ ?_
              dsimp only [Has, Fact.eq]
              intro e ρ w' hc hf hg hG h24
              obtain s0 := hG
              go_simp
              rfl
            case ob0y2 =>
              refine ask_val [.fix 0 _] rfl 26 rfl (.inl rfl) ⟨⟨by kernel_rfl, by conv => lhs; whnf⟩, trivial⟩ ?_
              dsimp only [Has, Fact.eq]
              intro e ρ w' hc hf hg hG h0
              go_simp
              with_reducible rfl
            case ob0y3 =>
              refine ask_val [.fix 1 _] rfl 27 rfl (.inl rfl) ⟨⟨by kernel_rfl, by conv => lhs; whnf⟩, trivial⟩ ?_
              dsimp only [Has, Fact.eq]
              intro e ρ w' hc hf hg hG h1
              go_simp
              with_reducible rfl
            case ob0y4 =>
              refine ask_val [.op 26 2 (Fact.eq _), .op 27 3 (Fact.eq _)] rfl 28 rfl (.inl rfl) ⟨⟨by kernel_rfl, rfl⟩, ⟨by kernel_rfl, rfl⟩, trivial⟩ ?_
              dsimp only [Has, Fact.eq]
              intro e ρ w' hc hf hg hG h26 h27
              obtain s0 := hG
              go_simp
              with_reducible rfl
            case ob0y5 =>
              refine ask_val [.op 25 1 (Fact.eq _), .op 28 4 (Fact.eq _)] rfl 29 rfl (.inl rfl) ⟨⟨by kernel_rfl, rfl⟩, ⟨by kernel_rfl, rfl⟩, trivial⟩ ?_
              dsimp only [Has, Fact.eq]
              intro e ρ w' hc hf hg hG h25 h28
              go_simp
              with_reducible rfl
            case finb0y =>
              intro w' hG
              refine fin_eq (fin_eq (fin_eq (fin_eq (fin_eq (fin_eq (fin_nil (a' := ?_) ?_ ?_))))))
              rotate_left
              · simp only [Act.put, List.setIfInBounds_toArray, List.set_cons_zero, List.set_cons_succ]
                rfl
              obtain ⟨hk, hb⟩ := hG.out
              have HK := Aside0.mk hk
              have HB := Aside0.mk hb
              clear hk hb hG b1
              go_wp2_with fail
              refine (kinds_calls 0 (by omega) _).mono ?_
              rintro e w5 ⟨rfl, hb5⟩
              replace HK := Aside0.mk (blk_below HK.out hb5)
              replace HB := Aside0.mk (below_then HB.out HB.out.size hb5)
              have hk := HK.out
              have k0 := blk_cell hk 0
              have k1 := blk_cell hk 1
              have k2 := blk_cell hk 2
              have k3 := blk_cell hk 3
              have f0 := fun i => blk_frozen hk i
              clear hb5 hk
              go_wp2_with fail
              refine ref_ret rfl w w5 _ _ _ _ _ _ _ _ _ _ _ HB.out HK.out rfl ?_
              rw [← HO.out, HC.out]
              show _ = _
              first | rfl | simp [tokV]
          · have b1 : ((40 : Int) == (((s[p]'hp).toNat : Nat) : Int)) = false := by rw [beq_eq_false_iff_ne]; intro e; exact hc (by apply UInt8.toNat_inj.1; have : ((40 : UInt8).toNat : Int) = 40 := rfl; omega)
            have HC := Aside0.mk hc
            clear hc
            go_wp2_with fail
            refine region_facts (ws := []) (G := fun _ w' => Aside0 (w'.heap[w.heap.size]? = some (.cells #[.int .i64 0, .string ByteArray.empty, .int .i64 0, .int .i64 0] 28 (0, 0)) ∧ Below w.heap.size w w')) (φs := [Fact.eq ?vb0n0, Fact.eq (.int .u8 40), Fact.eq ?vb0n2, Fact.eq ?vb0n3, Fact.eq ?vb0n4, Fact.eq ?vb0n5]) (n := 6) (m := 38) (by kernel_rfl) (by kernel_rfl) rfl rfl (by kernel_rfl) (fun _ _ _ h hb => ⟨⟨blk_below h.out.1 hb, below_then h.out.2 h.out.2.size hb⟩⟩) (⟨⟨blk_drew HR.out.1, below_drew HR.out.2⟩⟩) ⟨?ob0n0, ?ob0n1, ?ob0n2, ?ob0n3, ?ob0n4, ?ob0n5, trivial⟩ ?finb0n
            case ob0n0 =>
              refine ask_val [.fix 6 _] rfl 24 rfl (.inl rfl) ⟨⟨by kernel_rfl, by conv => lhs; whnf⟩, trivial⟩ ?_
              dsimp only [Has, Fact.eq]
              intro e ρ w' hc hf hg hG h6
              go_simp
              with_reducible rfl
            case ob0n1 =>
              refine ask_val [.op 24 0 (Fact.eq _)] rfl 25 rfl (.inl rfl) ⟨⟨by kernel_rfl, rfl⟩, trivial⟩ ?_
              dsimp only [Has, Fact.eq]
              intro e ρ w' hc hf hg hG h24
              obtain s0 := hG
              go_simp
              rfl
            case ob0n2 =>
              refine ask_val [.fix 0 _] rfl 26 rfl (.inl rfl) ⟨⟨by kernel_rfl, by conv => lhs; whnf⟩, trivial⟩ ?_
              dsimp only [Has, Fact.eq]
              intro e ρ w' hc hf hg hG h0
              go_simp
              with_reducible rfl
            case ob0n3 =>
              refine ask_val [.fix 1 _] rfl 27 rfl (.inl rfl) ⟨⟨by kernel_rfl, by conv => lhs; whnf⟩, trivial⟩ ?_
              dsimp only [Has, Fact.eq]
              intro e ρ w' hc hf hg hG h1
              go_simp
              with_reducible rfl
            case ob0n4 =>
              refine ask_val [.op 26 2 (Fact.eq _), .op 27 3 (Fact.eq _)] rfl 28 rfl (.inl rfl) ⟨⟨by kernel_rfl, rfl⟩, ⟨by kernel_rfl, rfl⟩, trivial⟩ ?_
              dsimp only [Has, Fact.eq]
              intro e ρ w' hc hf hg hG h26 h27
              obtain s0 := hG
              go_simp
              with_reducible rfl
            case ob0n5 =>
              refine ask_val [.op 25 1 (Fact.eq _), .op 28 4 (Fact.eq _)] rfl 29 rfl (.inl rfl) ⟨⟨by kernel_rfl, rfl⟩, ⟨by kernel_rfl, rfl⟩, trivial⟩ ?_
              dsimp only [Has, Fact.eq]
              intro e ρ w' hc hf hg hG h25 h28
              go_simp
              with_reducible rfl
            case finb0n =>
              intro w' hG
              refine fin_eq (fin_eq (fin_eq (fin_eq (fin_eq (fin_eq (fin_nil (a' := ?_) ?_ ?_))))))
              rotate_left
              · simp only [Act.put, List.setIfInBounds_toArray, List.set_cons_zero, List.set_cons_succ]
                rfl
              clear b1
              go_wp2_with fail
              refine ⟨⟨1, by first | rfl | go_num, by omega, hG, ⟨?_⟩⟩, by simp [intOf]⟩
              rw [show markL.take 1 = markL.take 0 ++ [40] from rfl, List.mem_append, List.mem_singleton, not_or]
              exact ⟨HN.out, HC.out⟩
        · by_cases hc : (s[p]'hp) = 41
          · have b1 : ((41 : Int) == (((s[p]'hp).toNat : Nat) : Int)) = true := by rw [hc]; rfl
            have HC := Aside0.mk hc
            clear hc
            go_wp2_with fail
            refine region_facts (ws := []) (G := fun _ w' => Aside0 (w'.heap[w.heap.size]? = some (.cells #[.int .i64 0, .string ByteArray.empty, .int .i64 0, .int .i64 0] 28 (0, 0)) ∧ Below w.heap.size w w')) (φs := [Fact.eq ?vb1y0, Fact.eq (.int .u8 41), Fact.eq ?vb1y2, Fact.eq ?vb1y3, Fact.eq ?vb1y4, Fact.eq ?vb1y5]) (n := 6) (m := 38) (by kernel_rfl) (by kernel_rfl) rfl rfl (by kernel_rfl) (fun _ _ _ h hb => ⟨⟨blk_below h.out.1 hb, below_then h.out.2 h.out.2.size hb⟩⟩) (⟨⟨blk_drew HR.out.1, below_drew HR.out.2⟩⟩) ⟨?ob1y0, ?ob1y1, ?ob1y2, ?ob1y3, ?ob1y4, ?ob1y5, trivial⟩ ?finb1y
            case ob1y0 =>
              refine ask_val [.fix 6 _] rfl 24 rfl (.inl rfl) ⟨⟨by kernel_rfl, by conv => lhs; whnf⟩, trivial⟩ ?_
              dsimp only [Has, Fact.eq]
              intro e ρ w' hc hf hg hG h6
              go_simp
              with_reducible rfl
            case ob1y1 =>
              refine ask_val [.op 24 0 (Fact.eq _)] rfl 25 rfl (.inl rfl) ⟨⟨by kernel_rfl, rfl⟩, trivial⟩ ?_
              dsimp only [Has, Fact.eq]
              intro e ρ w' hc hf hg hG h24
              obtain s0 := hG
              go_simp
              rfl
            case ob1y2 =>
              refine ask_val [.fix 0 _] rfl 26 rfl (.inl rfl) ⟨⟨by kernel_rfl, by conv => lhs; whnf⟩, trivial⟩ ?_
              dsimp only [Has, Fact.eq]
              intro e ρ w' hc hf hg hG h0
              go_simp
              with_reducible rfl
            case ob1y3 =>
              refine ask_val [.fix 1 _] rfl 27 rfl (.inl rfl) ⟨⟨by kernel_rfl, by conv => lhs; whnf⟩, trivial⟩ ?_
              dsimp only [Has, Fact.eq]
              intro e ρ w' hc hf hg hG h1
              go_simp
              with_reducible rfl
            case ob1y4 =>
              refine ask_val [.op 26 2 (Fact.eq _), .op 27 3 (Fact.eq _)] rfl 28 rfl (.inl rfl) ⟨⟨by kernel_rfl, rfl⟩, ⟨by kernel_rfl, rfl⟩, trivial⟩ ?_
              dsimp only [Has, Fact.eq]
              intro e ρ w' hc hf hg hG h26 h27
              obtain s0 := hG
              go_simp
              with_reducible rfl
            case ob1y5 =>
              refine ask_val [.op 25 1 (Fact.eq _), .op 28 4 (Fact.eq _)] rfl 29 rfl (.inl rfl) ⟨⟨by kernel_rfl, rfl⟩, ⟨by kernel_rfl, rfl⟩, trivial⟩ ?_
              dsimp only [Has, Fact.eq]
              intro e ρ w' hc hf hg hG h25 h28
              go_simp
              with_reducible rfl
            case finb1y =>
              intro w' hG
              refine fin_eq (fin_eq (fin_eq (fin_eq (fin_eq (fin_eq (fin_nil (a' := ?_) ?_ ?_))))))
              rotate_left
              · simp only [Act.put, List.setIfInBounds_toArray, List.set_cons_zero, List.set_cons_succ]
                rfl
              obtain ⟨hk, hb⟩ := hG.out
              have HK := Aside0.mk hk
              have HB := Aside0.mk hb
              clear hk hb hG b1
              go_wp2_with fail
              refine (kinds_calls 1 (by omega) _).mono ?_
              rintro e w5 ⟨rfl, hb5⟩
              replace HK := Aside0.mk (blk_below HK.out hb5)
              replace HB := Aside0.mk (below_then HB.out HB.out.size hb5)
              have hk := HK.out
              have k0 := blk_cell hk 0
              have k1 := blk_cell hk 1
              have k2 := blk_cell hk 2
              have k3 := blk_cell hk 3
              have f0 := fun i => blk_frozen hk i
              clear hb5 hk
              go_wp2_with fail
              refine ref_ret rfl w w5 _ _ _ _ _ _ _ _ _ _ _ HB.out HK.out rfl ?_
              rw [← HO.out, HC.out]
              show _ = _
              first | rfl | simp [tokV]
          · have b1 : ((41 : Int) == (((s[p]'hp).toNat : Nat) : Int)) = false := by rw [beq_eq_false_iff_ne]; intro e; exact hc (by apply UInt8.toNat_inj.1; have : ((41 : UInt8).toNat : Int) = 41 := rfl; omega)
            have HC := Aside0.mk hc
            clear hc
            go_wp2_with fail
            refine region_facts (ws := []) (G := fun _ w' => Aside0 (w'.heap[w.heap.size]? = some (.cells #[.int .i64 0, .string ByteArray.empty, .int .i64 0, .int .i64 0] 28 (0, 0)) ∧ Below w.heap.size w w')) (φs := [Fact.eq ?vb1n0, Fact.eq (.int .u8 41), Fact.eq ?vb1n2, Fact.eq ?vb1n3, Fact.eq ?vb1n4, Fact.eq ?vb1n5]) (n := 6) (m := 38) (by kernel_rfl) (by kernel_rfl) rfl rfl (by kernel_rfl) (fun _ _ _ h hb => ⟨⟨blk_below h.out.1 hb, below_then h.out.2 h.out.2.size hb⟩⟩) (⟨⟨blk_drew HR.out.1, below_drew HR.out.2⟩⟩) ⟨?ob1n0, ?ob1n1, ?ob1n2, ?ob1n3, ?ob1n4, ?ob1n5, trivial⟩ ?finb1n
            case ob1n0 =>
              refine ask_val [.fix 6 _] rfl 24 rfl (.inl rfl) ⟨⟨by kernel_rfl, by conv => lhs; whnf⟩, trivial⟩ ?_
              dsimp only [Has, Fact.eq]
              intro e ρ w' hc hf hg hG h6
              go_simp
              with_reducible rfl
            case ob1n1 =>
              refine ask_val [.op 24 0 (Fact.eq _)] rfl 25 rfl (.inl rfl) ⟨⟨by kernel_rfl, rfl⟩, trivial⟩ ?_
              dsimp only [Has, Fact.eq]
              intro e ρ w' hc hf hg hG h24
              obtain s0 := hG
              go_simp
              rfl
            case ob1n2 =>
              refine ask_val [.fix 0 _] rfl 26 rfl (.inl rfl) ⟨⟨by kernel_rfl, by conv => lhs; whnf⟩, trivial⟩ ?_
              dsimp only [Has, Fact.eq]
              intro e ρ w' hc hf hg hG h0
              go_simp
              with_reducible rfl
            case ob1n3 =>
              refine ask_val [.fix 1 _] rfl 27 rfl (.inl rfl) ⟨⟨by kernel_rfl, by conv => lhs; whnf⟩, trivial⟩ ?_
              dsimp only [Has, Fact.eq]
              intro e ρ w' hc hf hg hG h1
              go_simp
              with_reducible rfl
            case ob1n4 =>
              refine ask_val [.op 26 2 (Fact.eq _), .op 27 3 (Fact.eq _)] rfl 28 rfl (.inl rfl) ⟨⟨by kernel_rfl, rfl⟩, ⟨by kernel_rfl, rfl⟩, trivial⟩ ?_
              dsimp only [Has, Fact.eq]
              intro e ρ w' hc hf hg hG h26 h27
              obtain s0 := hG
              go_simp
              with_reducible rfl
            case ob1n5 =>
              refine ask_val [.op 25 1 (Fact.eq _), .op 28 4 (Fact.eq _)] rfl 29 rfl (.inl rfl) ⟨⟨by kernel_rfl, rfl⟩, ⟨by kernel_rfl, rfl⟩, trivial⟩ ?_
              dsimp only [Has, Fact.eq]
              intro e ρ w' hc hf hg hG h25 h28
              go_simp
              with_reducible rfl
            case finb1n =>
              intro w' hG
              refine fin_eq (fin_eq (fin_eq (fin_eq (fin_eq (fin_eq (fin_nil (a' := ?_) ?_ ?_))))))
              rotate_left
              · simp only [Act.put, List.setIfInBounds_toArray, List.set_cons_zero, List.set_cons_succ]
                rfl
              clear b1
              go_wp2_with fail
              refine ⟨⟨2, by first | rfl | go_num, by omega, hG, ⟨?_⟩⟩, by simp [intOf]⟩
              rw [show markL.take 2 = markL.take 1 ++ [41] from rfl, List.mem_append, List.mem_singleton, not_or]
              exact ⟨HN.out, HC.out⟩
        · by_cases hc : (s[p]'hp) = 91
          · have b1 : ((91 : Int) == (((s[p]'hp).toNat : Nat) : Int)) = true := by rw [hc]; rfl
            have HC := Aside0.mk hc
            clear hc
            go_wp2_with fail
            refine region_facts (ws := []) (G := fun _ w' => Aside0 (w'.heap[w.heap.size]? = some (.cells #[.int .i64 0, .string ByteArray.empty, .int .i64 0, .int .i64 0] 28 (0, 0)) ∧ Below w.heap.size w w')) (φs := [Fact.eq ?vb2y0, Fact.eq (.int .u8 91), Fact.eq ?vb2y2, Fact.eq ?vb2y3, Fact.eq ?vb2y4, Fact.eq ?vb2y5]) (n := 6) (m := 38) (by kernel_rfl) (by kernel_rfl) rfl rfl (by kernel_rfl) (fun _ _ _ h hb => ⟨⟨blk_below h.out.1 hb, below_then h.out.2 h.out.2.size hb⟩⟩) (⟨⟨blk_drew HR.out.1, below_drew HR.out.2⟩⟩) ⟨?ob2y0, ?ob2y1, ?ob2y2, ?ob2y3, ?ob2y4, ?ob2y5, trivial⟩ ?finb2y
            case ob2y0 =>
              refine ask_val [.fix 6 _] rfl 24 rfl (.inl rfl) ⟨⟨by kernel_rfl, by conv => lhs; whnf⟩, trivial⟩ ?_
              dsimp only [Has, Fact.eq]
              intro e ρ w' hc hf hg hG h6
              go_simp
              with_reducible rfl
            case ob2y1 =>
              refine ask_val [.op 24 0 (Fact.eq _)] rfl 25 rfl (.inl rfl) ⟨⟨by kernel_rfl, rfl⟩, trivial⟩ ?_
              dsimp only [Has, Fact.eq]
              intro e ρ w' hc hf hg hG h24
              obtain s0 := hG
              go_simp
              rfl
            case ob2y2 =>
              refine ask_val [.fix 0 _] rfl 26 rfl (.inl rfl) ⟨⟨by kernel_rfl, by conv => lhs; whnf⟩, trivial⟩ ?_
              dsimp only [Has, Fact.eq]
              intro e ρ w' hc hf hg hG h0
              go_simp
              with_reducible rfl
            case ob2y3 =>
              refine ask_val [.fix 1 _] rfl 27 rfl (.inl rfl) ⟨⟨by kernel_rfl, by conv => lhs; whnf⟩, trivial⟩ ?_
              dsimp only [Has, Fact.eq]
              intro e ρ w' hc hf hg hG h1
              go_simp
              with_reducible rfl
            case ob2y4 =>
              refine ask_val [.op 26 2 (Fact.eq _), .op 27 3 (Fact.eq _)] rfl 28 rfl (.inl rfl) ⟨⟨by kernel_rfl, rfl⟩, ⟨by kernel_rfl, rfl⟩, trivial⟩ ?_
              dsimp only [Has, Fact.eq]
              intro e ρ w' hc hf hg hG h26 h27
              obtain s0 := hG
              go_simp
              with_reducible rfl
            case ob2y5 =>
              refine ask_val [.op 25 1 (Fact.eq _), .op 28 4 (Fact.eq _)] rfl 29 rfl (.inl rfl) ⟨⟨by kernel_rfl, rfl⟩, ⟨by kernel_rfl, rfl⟩, trivial⟩ ?_
              dsimp only [Has, Fact.eq]
              intro e ρ w' hc hf hg hG h25 h28
              go_simp
              with_reducible rfl
            case finb2y =>
              intro w' hG
              refine fin_eq (fin_eq (fin_eq (fin_eq (fin_eq (fin_eq (fin_nil (a' := ?_) ?_ ?_))))))
              rotate_left
              · simp only [Act.put, List.setIfInBounds_toArray, List.set_cons_zero, List.set_cons_succ]
                rfl
              obtain ⟨hk, hb⟩ := hG.out
              have HK := Aside0.mk hk
              have HB := Aside0.mk hb
              clear hk hb hG b1
              go_wp2_with fail
              refine (kinds_calls 2 (by omega) _).mono ?_
              rintro e w5 ⟨rfl, hb5⟩
              replace HK := Aside0.mk (blk_below HK.out hb5)
              replace HB := Aside0.mk (below_then HB.out HB.out.size hb5)
              have hk := HK.out
              have k0 := blk_cell hk 0
              have k1 := blk_cell hk 1
              have k2 := blk_cell hk 2
              have k3 := blk_cell hk 3
              have f0 := fun i => blk_frozen hk i
              clear hb5 hk
              go_wp2_with fail
              refine ref_ret rfl w w5 _ _ _ _ _ _ _ _ _ _ _ HB.out HK.out rfl ?_
              rw [← HO.out, HC.out]
              show _ = _
              first | rfl | simp [tokV]
          · have b1 : ((91 : Int) == (((s[p]'hp).toNat : Nat) : Int)) = false := by rw [beq_eq_false_iff_ne]; intro e; exact hc (by apply UInt8.toNat_inj.1; have : ((91 : UInt8).toNat : Int) = 91 := rfl; omega)
            have HC := Aside0.mk hc
            clear hc
            go_wp2_with fail
            refine region_facts (ws := []) (G := fun _ w' => Aside0 (w'.heap[w.heap.size]? = some (.cells #[.int .i64 0, .string ByteArray.empty, .int .i64 0, .int .i64 0] 28 (0, 0)) ∧ Below w.heap.size w w')) (φs := [Fact.eq ?vb2n0, Fact.eq (.int .u8 91), Fact.eq ?vb2n2, Fact.eq ?vb2n3, Fact.eq ?vb2n4, Fact.eq ?vb2n5]) (n := 6) (m := 38) (by kernel_rfl) (by kernel_rfl) rfl rfl (by kernel_rfl) (fun _ _ _ h hb => ⟨⟨blk_below h.out.1 hb, below_then h.out.2 h.out.2.size hb⟩⟩) (⟨⟨blk_drew HR.out.1, below_drew HR.out.2⟩⟩) ⟨?ob2n0, ?ob2n1, ?ob2n2, ?ob2n3, ?ob2n4, ?ob2n5, trivial⟩ ?finb2n
            case ob2n0 =>
              refine ask_val [.fix 6 _] rfl 24 rfl (.inl rfl) ⟨⟨by kernel_rfl, by conv => lhs; whnf⟩, trivial⟩ ?_
              dsimp only [Has, Fact.eq]
              intro e ρ w' hc hf hg hG h6
              go_simp
              with_reducible rfl
            case ob2n1 =>
              refine ask_val [.op 24 0 (Fact.eq _)] rfl 25 rfl (.inl rfl) ⟨⟨by kernel_rfl, rfl⟩, trivial⟩ ?_
              dsimp only [Has, Fact.eq]
              intro e ρ w' hc hf hg hG h24
              obtain s0 := hG
              go_simp
              rfl
            case ob2n2 =>
              refine ask_val [.fix 0 _] rfl 26 rfl (.inl rfl) ⟨⟨by kernel_rfl, by conv => lhs; whnf⟩, trivial⟩ ?_
              dsimp only [Has, Fact.eq]
              intro e ρ w' hc hf hg hG h0
              go_simp
              with_reducible rfl
            case ob2n3 =>
              refine ask_val [.fix 1 _] rfl 27 rfl (.inl rfl) ⟨⟨by kernel_rfl, by conv => lhs; whnf⟩, trivial⟩ ?_
              dsimp only [Has, Fact.eq]
              intro e ρ w' hc hf hg hG h1
              go_simp
              with_reducible rfl
            case ob2n4 =>
              refine ask_val [.op 26 2 (Fact.eq _), .op 27 3 (Fact.eq _)] rfl 28 rfl (.inl rfl) ⟨⟨by kernel_rfl, rfl⟩, ⟨by kernel_rfl, rfl⟩, trivial⟩ ?_
              dsimp only [Has, Fact.eq]
              intro e ρ w' hc hf hg hG h26 h27
              obtain s0 := hG
              go_simp
              with_reducible rfl
            case ob2n5 =>
              refine ask_val [.op 25 1 (Fact.eq _), .op 28 4 (Fact.eq _)] rfl 29 rfl (.inl rfl) ⟨⟨by kernel_rfl, rfl⟩, ⟨by kernel_rfl, rfl⟩, trivial⟩ ?_
              dsimp only [Has, Fact.eq]
              intro e ρ w' hc hf hg hG h25 h28
              go_simp
              with_reducible rfl
            case finb2n =>
              intro w' hG
              refine fin_eq (fin_eq (fin_eq (fin_eq (fin_eq (fin_eq (fin_nil (a' := ?_) ?_ ?_))))))
              rotate_left
              · simp only [Act.put, List.setIfInBounds_toArray, List.set_cons_zero, List.set_cons_succ]
                rfl
              clear b1
              go_wp2_with fail
              refine ⟨⟨3, by first | rfl | go_num, by omega, hG, ⟨?_⟩⟩, by simp [intOf]⟩
              rw [show markL.take 3 = markL.take 2 ++ [91] from rfl, List.mem_append, List.mem_singleton, not_or]
              exact ⟨HN.out, HC.out⟩
        · by_cases hc : (s[p]'hp) = 93
          · have b1 : ((93 : Int) == (((s[p]'hp).toNat : Nat) : Int)) = true := by rw [hc]; rfl
            have HC := Aside0.mk hc
            clear hc
            go_wp2_with fail
            refine region_facts (ws := []) (G := fun _ w' => Aside0 (w'.heap[w.heap.size]? = some (.cells #[.int .i64 0, .string ByteArray.empty, .int .i64 0, .int .i64 0] 28 (0, 0)) ∧ Below w.heap.size w w')) (φs := [Fact.eq ?vb3y0, Fact.eq (.int .u8 93), Fact.eq ?vb3y2, Fact.eq ?vb3y3, Fact.eq ?vb3y4, Fact.eq ?vb3y5]) (n := 6) (m := 38) (by kernel_rfl) (by kernel_rfl) rfl rfl (by kernel_rfl) (fun _ _ _ h hb => ⟨⟨blk_below h.out.1 hb, below_then h.out.2 h.out.2.size hb⟩⟩) (⟨⟨blk_drew HR.out.1, below_drew HR.out.2⟩⟩) ⟨?ob3y0, ?ob3y1, ?ob3y2, ?ob3y3, ?ob3y4, ?ob3y5, trivial⟩ ?finb3y
            case ob3y0 =>
              refine ask_val [.fix 6 _] rfl 24 rfl (.inl rfl) ⟨⟨by kernel_rfl, by conv => lhs; whnf⟩, trivial⟩ ?_
              dsimp only [Has, Fact.eq]
              intro e ρ w' hc hf hg hG h6
              go_simp
              with_reducible rfl
            case ob3y1 =>
              refine ask_val [.op 24 0 (Fact.eq _)] rfl 25 rfl (.inl rfl) ⟨⟨by kernel_rfl, rfl⟩, trivial⟩ ?_
              dsimp only [Has, Fact.eq]
              intro e ρ w' hc hf hg hG h24
              obtain s0 := hG
              go_simp
              rfl
            case ob3y2 =>
              refine ask_val [.fix 0 _] rfl 26 rfl (.inl rfl) ⟨⟨by kernel_rfl, by conv => lhs; whnf⟩, trivial⟩ ?_
              dsimp only [Has, Fact.eq]
              intro e ρ w' hc hf hg hG h0
              go_simp
              with_reducible rfl
            case ob3y3 =>
              refine ask_val [.fix 1 _] rfl 27 rfl (.inl rfl) ⟨⟨by kernel_rfl, by conv => lhs; whnf⟩, trivial⟩ ?_
              dsimp only [Has, Fact.eq]
              intro e ρ w' hc hf hg hG h1
              go_simp
              with_reducible rfl
            case ob3y4 =>
              refine ask_val [.op 26 2 (Fact.eq _), .op 27 3 (Fact.eq _)] rfl 28 rfl (.inl rfl) ⟨⟨by kernel_rfl, rfl⟩, ⟨by kernel_rfl, rfl⟩, trivial⟩ ?_
              dsimp only [Has, Fact.eq]
              intro e ρ w' hc hf hg hG h26 h27
              obtain s0 := hG
              go_simp
              with_reducible rfl
            case ob3y5 =>
              refine ask_val [.op 25 1 (Fact.eq _), .op 28 4 (Fact.eq _)] rfl 29 rfl (.inl rfl) ⟨⟨by kernel_rfl, rfl⟩, ⟨by kernel_rfl, rfl⟩, trivial⟩ ?_
              dsimp only [Has, Fact.eq]
              intro e ρ w' hc hf hg hG h25 h28
              go_simp
              with_reducible rfl
            case finb3y =>
              intro w' hG
              refine fin_eq (fin_eq (fin_eq (fin_eq (fin_eq (fin_eq (fin_nil (a' := ?_) ?_ ?_))))))
              rotate_left
              · simp only [Act.put, List.setIfInBounds_toArray, List.set_cons_zero, List.set_cons_succ]
                rfl
              obtain ⟨hk, hb⟩ := hG.out
              have HK := Aside0.mk hk
              have HB := Aside0.mk hb
              clear hk hb hG b1
              go_wp2_with fail
              refine (kinds_calls 3 (by omega) _).mono ?_
              rintro e w5 ⟨rfl, hb5⟩
              replace HK := Aside0.mk (blk_below HK.out hb5)
              replace HB := Aside0.mk (below_then HB.out HB.out.size hb5)
              have hk := HK.out
              have k0 := blk_cell hk 0
              have k1 := blk_cell hk 1
              have k2 := blk_cell hk 2
              have k3 := blk_cell hk 3
              have f0 := fun i => blk_frozen hk i
              clear hb5 hk
              go_wp2_with fail
              refine ref_ret rfl w w5 _ _ _ _ _ _ _ _ _ _ _ HB.out HK.out rfl ?_
              rw [← HO.out, HC.out]
              show _ = _
              first | rfl | simp [tokV]
          · have b1 : ((93 : Int) == (((s[p]'hp).toNat : Nat) : Int)) = false := by rw [beq_eq_false_iff_ne]; intro e; exact hc (by apply UInt8.toNat_inj.1; have : ((93 : UInt8).toNat : Int) = 93 := rfl; omega)
            have HC := Aside0.mk hc
            clear hc
            go_wp2_with fail
            refine region_facts (ws := []) (G := fun _ w' => Aside0 (w'.heap[w.heap.size]? = some (.cells #[.int .i64 0, .string ByteArray.empty, .int .i64 0, .int .i64 0] 28 (0, 0)) ∧ Below w.heap.size w w')) (φs := [Fact.eq ?vb3n0, Fact.eq (.int .u8 93), Fact.eq ?vb3n2, Fact.eq ?vb3n3, Fact.eq ?vb3n4, Fact.eq ?vb3n5]) (n := 6) (m := 38) (by kernel_rfl) (by kernel_rfl) rfl rfl (by kernel_rfl) (fun _ _ _ h hb => ⟨⟨blk_below h.out.1 hb, below_then h.out.2 h.out.2.size hb⟩⟩) (⟨⟨blk_drew HR.out.1, below_drew HR.out.2⟩⟩) ⟨?ob3n0, ?ob3n1, ?ob3n2, ?ob3n3, ?ob3n4, ?ob3n5, trivial⟩ ?finb3n
            case ob3n0 =>
              refine ask_val [.fix 6 _] rfl 24 rfl (.inl rfl) ⟨⟨by kernel_rfl, by conv => lhs; whnf⟩, trivial⟩ ?_
              dsimp only [Has, Fact.eq]
              intro e ρ w' hc hf hg hG h6
              go_simp
              with_reducible rfl
            case ob3n1 =>
              refine ask_val [.op 24 0 (Fact.eq _)] rfl 25 rfl (.inl rfl) ⟨⟨by kernel_rfl, rfl⟩, trivial⟩ ?_
              dsimp only [Has, Fact.eq]
              intro e ρ w' hc hf hg hG h24
              obtain s0 := hG
              go_simp
              rfl
            case ob3n2 =>
              refine ask_val [.fix 0 _] rfl 26 rfl (.inl rfl) ⟨⟨by kernel_rfl, by conv => lhs; whnf⟩, trivial⟩ ?_
              dsimp only [Has, Fact.eq]
              intro e ρ w' hc hf hg hG h0
              go_simp
              with_reducible rfl
            case ob3n3 =>
              refine ask_val [.fix 1 _] rfl 27 rfl (.inl rfl) ⟨⟨by kernel_rfl, by conv => lhs; whnf⟩, trivial⟩ ?_
              dsimp only [Has, Fact.eq]
              intro e ρ w' hc hf hg hG h1
              go_simp
              with_reducible rfl
            case ob3n4 =>
              refine ask_val [.op 26 2 (Fact.eq _), .op 27 3 (Fact.eq _)] rfl 28 rfl (.inl rfl) ⟨⟨by kernel_rfl, rfl⟩, ⟨by kernel_rfl, rfl⟩, trivial⟩ ?_
              dsimp only [Has, Fact.eq]
              intro e ρ w' hc hf hg hG h26 h27
              obtain s0 := hG
              go_simp
              with_reducible rfl
            case ob3n5 =>
              refine ask_val [.op 25 1 (Fact.eq _), .op 28 4 (Fact.eq _)] rfl 29 rfl (.inl rfl) ⟨⟨by kernel_rfl, rfl⟩, ⟨by kernel_rfl, rfl⟩, trivial⟩ ?_
              dsimp only [Has, Fact.eq]
              intro e ρ w' hc hf hg hG h25 h28
              go_simp
              with_reducible rfl
            case finb3n =>
              intro w' hG
              refine fin_eq (fin_eq (fin_eq (fin_eq (fin_eq (fin_eq (fin_nil (a' := ?_) ?_ ?_))))))
              rotate_left
              · simp only [Act.put, List.setIfInBounds_toArray, List.set_cons_zero, List.set_cons_succ]
                rfl
              clear b1
              go_wp2_with fail
              refine ⟨⟨4, by first | rfl | go_num, by omega, hG, ⟨?_⟩⟩, by simp [intOf]⟩
              rw [show markL.take 4 = markL.take 3 ++ [93] from rfl, List.mem_append, List.mem_singleton, not_or]
              exact ⟨HN.out, HC.out⟩
        · by_cases hc : (s[p]'hp) = 124
          · have b1 : ((124 : Int) == (((s[p]'hp).toNat : Nat) : Int)) = true := by rw [hc]; rfl
            have HC := Aside0.mk hc
            clear hc
            go_wp2_with fail
            refine region_facts (ws := []) (G := fun _ w' => Aside0 (w'.heap[w.heap.size]? = some (.cells #[.int .i64 0, .string ByteArray.empty, .int .i64 0, .int .i64 0] 28 (0, 0)) ∧ Below w.heap.size w w')) (φs := [Fact.eq ?vb4y0, Fact.eq (.int .u8 124), Fact.eq ?vb4y2, Fact.eq ?vb4y3, Fact.eq ?vb4y4, Fact.eq ?vb4y5]) (n := 6) (m := 38) (by kernel_rfl) (by kernel_rfl) rfl rfl (by kernel_rfl) (fun _ _ _ h hb => ⟨⟨blk_below h.out.1 hb, below_then h.out.2 h.out.2.size hb⟩⟩) (⟨⟨blk_drew HR.out.1, below_drew HR.out.2⟩⟩) ⟨?ob4y0, ?ob4y1, ?ob4y2, ?ob4y3, ?ob4y4, ?ob4y5, trivial⟩ ?finb4y
            case ob4y0 =>
              refine ask_val [.fix 6 _] rfl 24 rfl (.inl rfl) ⟨⟨by kernel_rfl, by conv => lhs; whnf⟩, trivial⟩ ?_
              dsimp only [Has, Fact.eq]
              intro e ρ w' hc hf hg hG h6
              go_simp
              with_reducible rfl
            case ob4y1 =>
              refine ask_val [.op 24 0 (Fact.eq _)] rfl 25 rfl (.inl rfl) ⟨⟨by kernel_rfl, rfl⟩, trivial⟩ ?_
              dsimp only [Has, Fact.eq]
              intro e ρ w' hc hf hg hG h24
              obtain s0 := hG
              go_simp
              rfl
            case ob4y2 =>
              refine ask_val [.fix 0 _] rfl 26 rfl (.inl rfl) ⟨⟨by kernel_rfl, by conv => lhs; whnf⟩, trivial⟩ ?_
              dsimp only [Has, Fact.eq]
              intro e ρ w' hc hf hg hG h0
              go_simp
              with_reducible rfl
            case ob4y3 =>
              refine ask_val [.fix 1 _] rfl 27 rfl (.inl rfl) ⟨⟨by kernel_rfl, by conv => lhs; whnf⟩, trivial⟩ ?_
              dsimp only [Has, Fact.eq]
              intro e ρ w' hc hf hg hG h1
              go_simp
              with_reducible rfl
            case ob4y4 =>
              refine ask_val [.op 26 2 (Fact.eq _), .op 27 3 (Fact.eq _)] rfl 28 rfl (.inl rfl) ⟨⟨by kernel_rfl, rfl⟩, ⟨by kernel_rfl, rfl⟩, trivial⟩ ?_
              dsimp only [Has, Fact.eq]
              intro e ρ w' hc hf hg hG h26 h27
              obtain s0 := hG
              go_simp
              with_reducible rfl
            case ob4y5 =>
              refine ask_val [.op 25 1 (Fact.eq _), .op 28 4 (Fact.eq _)] rfl 29 rfl (.inl rfl) ⟨⟨by kernel_rfl, rfl⟩, ⟨by kernel_rfl, rfl⟩, trivial⟩ ?_
              dsimp only [Has, Fact.eq]
              intro e ρ w' hc hf hg hG h25 h28
              go_simp
              with_reducible rfl
            case finb4y =>
              intro w' hG
              refine fin_eq (fin_eq (fin_eq (fin_eq (fin_eq (fin_eq (fin_nil (a' := ?_) ?_ ?_))))))
              rotate_left
              · simp only [Act.put, List.setIfInBounds_toArray, List.set_cons_zero, List.set_cons_succ]
                rfl
              obtain ⟨hk, hb⟩ := hG.out
              have HK := Aside0.mk hk
              have HB := Aside0.mk hb
              clear hk hb hG b1
              go_wp2_with fail
              refine (kinds_calls 4 (by omega) _).mono ?_
              rintro e w5 ⟨rfl, hb5⟩
              replace HK := Aside0.mk (blk_below HK.out hb5)
              replace HB := Aside0.mk (below_then HB.out HB.out.size hb5)
              have hk := HK.out
              have k0 := blk_cell hk 0
              have k1 := blk_cell hk 1
              have k2 := blk_cell hk 2
              have k3 := blk_cell hk 3
              have f0 := fun i => blk_frozen hk i
              clear hb5 hk
              go_wp2_with fail
              refine ref_ret rfl w w5 _ _ _ _ _ _ _ _ _ _ _ HB.out HK.out rfl ?_
              rw [← HO.out, HC.out]
              show _ = _
              first | rfl | simp [tokV]
          · have b1 : ((124 : Int) == (((s[p]'hp).toNat : Nat) : Int)) = false := by rw [beq_eq_false_iff_ne]; intro e; exact hc (by apply UInt8.toNat_inj.1; have : ((124 : UInt8).toNat : Int) = 124 := rfl; omega)
            have HC := Aside0.mk hc
            clear hc
            go_wp2_with fail
            refine region_facts (ws := []) (G := fun _ w' => Aside0 (w'.heap[w.heap.size]? = some (.cells #[.int .i64 0, .string ByteArray.empty, .int .i64 0, .int .i64 0] 28 (0, 0)) ∧ Below w.heap.size w w')) (φs := [Fact.eq ?vb4n0, Fact.eq (.int .u8 124), Fact.eq ?vb4n2, Fact.eq ?vb4n3, Fact.eq ?vb4n4, Fact.eq ?vb4n5]) (n := 6) (m := 38) (by kernel_rfl) (by kernel_rfl) rfl rfl (by kernel_rfl) (fun _ _ _ h hb => ⟨⟨blk_below h.out.1 hb, below_then h.out.2 h.out.2.size hb⟩⟩) (⟨⟨blk_drew HR.out.1, below_drew HR.out.2⟩⟩) ⟨?ob4n0, ?ob4n1, ?ob4n2, ?ob4n3, ?ob4n4, ?ob4n5, trivial⟩ ?finb4n
            case ob4n0 =>
              refine ask_val [.fix 6 _] rfl 24 rfl (.inl rfl) ⟨⟨by kernel_rfl, by conv => lhs; whnf⟩, trivial⟩ ?_
              dsimp only [Has, Fact.eq]
              intro e ρ w' hc hf hg hG h6
              go_simp
              with_reducible rfl
            case ob4n1 =>
              refine ask_val [.op 24 0 (Fact.eq _)] rfl 25 rfl (.inl rfl) ⟨⟨by kernel_rfl, rfl⟩, trivial⟩ ?_
              dsimp only [Has, Fact.eq]
              intro e ρ w' hc hf hg hG h24
              obtain s0 := hG
              go_simp
              rfl
            case ob4n2 =>
              refine ask_val [.fix 0 _] rfl 26 rfl (.inl rfl) ⟨⟨by kernel_rfl, by conv => lhs; whnf⟩, trivial⟩ ?_
              dsimp only [Has, Fact.eq]
              intro e ρ w' hc hf hg hG h0
              go_simp
              with_reducible rfl
            case ob4n3 =>
              refine ask_val [.fix 1 _] rfl 27 rfl (.inl rfl) ⟨⟨by kernel_rfl, by conv => lhs; whnf⟩, trivial⟩ ?_
              dsimp only [Has, Fact.eq]
              intro e ρ w' hc hf hg hG h1
              go_simp
              with_reducible rfl
            case ob4n4 =>
              refine ask_val [.op 26 2 (Fact.eq _), .op 27 3 (Fact.eq _)] rfl 28 rfl (.inl rfl) ⟨⟨by kernel_rfl, rfl⟩, ⟨by kernel_rfl, rfl⟩, trivial⟩ ?_
              dsimp only [Has, Fact.eq]
              intro e ρ w' hc hf hg hG h26 h27
              obtain s0 := hG
              go_simp
              with_reducible rfl
            case ob4n5 =>
              refine ask_val [.op 25 1 (Fact.eq _), .op 28 4 (Fact.eq _)] rfl 29 rfl (.inl rfl) ⟨⟨by kernel_rfl, rfl⟩, ⟨by kernel_rfl, rfl⟩, trivial⟩ ?_
              dsimp only [Has, Fact.eq]
              intro e ρ w' hc hf hg hG h25 h28
              go_simp
              with_reducible rfl
            case finb4n =>
              intro w' hG
              refine fin_eq (fin_eq (fin_eq (fin_eq (fin_eq (fin_eq (fin_nil (a' := ?_) ?_ ?_))))))
              rotate_left
              · simp only [Act.put, List.setIfInBounds_toArray, List.set_cons_zero, List.set_cons_succ]
                rfl
              clear b1
              go_wp2_with fail
              refine ⟨⟨5, by first | rfl | go_num, by omega, hG, ⟨?_⟩⟩, by simp [intOf]⟩
              rw [show markL.take 5 = markL.take 4 ++ [124] from rfl, List.mem_append, List.mem_singleton, not_or]
              exact ⟨HN.out, HC.out⟩
        · by_cases hc : (s[p]'hp) = 58
          · have b1 : ((58 : Int) == (((s[p]'hp).toNat : Nat) : Int)) = true := by rw [hc]; rfl
            have HC := Aside0.mk hc
            clear hc
            go_wp2_with fail
            refine region_facts (ws := []) (G := fun _ w' => Aside0 (w'.heap[w.heap.size]? = some (.cells #[.int .i64 0, .string ByteArray.empty, .int .i64 0, .int .i64 0] 28 (0, 0)) ∧ Below w.heap.size w w')) (φs := [Fact.eq ?vb5y0, Fact.eq (.int .u8 58), Fact.eq ?vb5y2, Fact.eq ?vb5y3, Fact.eq ?vb5y4, Fact.eq ?vb5y5]) (n := 6) (m := 38) (by kernel_rfl) (by kernel_rfl) rfl rfl (by kernel_rfl) (fun _ _ _ h hb => ⟨⟨blk_below h.out.1 hb, below_then h.out.2 h.out.2.size hb⟩⟩) (⟨⟨blk_drew HR.out.1, below_drew HR.out.2⟩⟩) ⟨?ob5y0, ?ob5y1, ?ob5y2, ?ob5y3, ?ob5y4, ?ob5y5, trivial⟩ ?finb5y
            case ob5y0 =>
              refine ask_val [.fix 6 _] rfl 24 rfl (.inl rfl) ⟨⟨by kernel_rfl, by conv => lhs; whnf⟩, trivial⟩ ?_
              dsimp only [Has, Fact.eq]
              intro e ρ w' hc hf hg hG h6
              go_simp
              with_reducible rfl
            case ob5y1 =>
              refine ask_val [.op 24 0 (Fact.eq _)] rfl 25 rfl (.inl rfl) ⟨⟨by kernel_rfl, rfl⟩, trivial⟩ ?_
              dsimp only [Has, Fact.eq]
              intro e ρ w' hc hf hg hG h24
              obtain s0 := hG
              go_simp
              rfl
            case ob5y2 =>
              refine ask_val [.fix 0 _] rfl 26 rfl (.inl rfl) ⟨⟨by kernel_rfl, by conv => lhs; whnf⟩, trivial⟩ ?_
              dsimp only [Has, Fact.eq]
              intro e ρ w' hc hf hg hG h0
              go_simp
              with_reducible rfl
            case ob5y3 =>
              refine ask_val [.fix 1 _] rfl 27 rfl (.inl rfl) ⟨⟨by kernel_rfl, by conv => lhs; whnf⟩, trivial⟩ ?_
              dsimp only [Has, Fact.eq]
              intro e ρ w' hc hf hg hG h1
              go_simp
              with_reducible rfl
            case ob5y4 =>
              refine ask_val [.op 26 2 (Fact.eq _), .op 27 3 (Fact.eq _)] rfl 28 rfl (.inl rfl) ⟨⟨by kernel_rfl, rfl⟩, ⟨by kernel_rfl, rfl⟩, trivial⟩ ?_
              dsimp only [Has, Fact.eq]
              intro e ρ w' hc hf hg hG h26 h27
              obtain s0 := hG
              go_simp
              with_reducible rfl
            case ob5y5 =>
              refine ask_val [.op 25 1 (Fact.eq _), .op 28 4 (Fact.eq _)] rfl 29 rfl (.inl rfl) ⟨⟨by kernel_rfl, rfl⟩, ⟨by kernel_rfl, rfl⟩, trivial⟩ ?_
              dsimp only [Has, Fact.eq]
              intro e ρ w' hc hf hg hG h25 h28
              go_simp
              with_reducible rfl
            case finb5y =>
              intro w' hG
              refine fin_eq (fin_eq (fin_eq (fin_eq (fin_eq (fin_eq (fin_nil (a' := ?_) ?_ ?_))))))
              rotate_left
              · simp only [Act.put, List.setIfInBounds_toArray, List.set_cons_zero, List.set_cons_succ]
                rfl
              obtain ⟨hk, hb⟩ := hG.out
              have HK := Aside0.mk hk
              have HB := Aside0.mk hb
              clear hk hb hG b1
              go_wp2_with fail
              refine (kinds_calls 5 (by omega) _).mono ?_
              rintro e w5 ⟨rfl, hb5⟩
              replace HK := Aside0.mk (blk_below HK.out hb5)
              replace HB := Aside0.mk (below_then HB.out HB.out.size hb5)
              have hk := HK.out
              have k0 := blk_cell hk 0
              have k1 := blk_cell hk 1
              have k2 := blk_cell hk 2
              have k3 := blk_cell hk 3
              have f0 := fun i => blk_frozen hk i
              clear hb5 hk
              go_wp2_with fail
              refine ref_ret rfl w w5 _ _ _ _ _ _ _ _ _ _ _ HB.out HK.out rfl ?_
              rw [← HO.out, HC.out]
              show _ = _
              first | rfl | simp [tokV]
          · have b1 : ((58 : Int) == (((s[p]'hp).toNat : Nat) : Int)) = false := by rw [beq_eq_false_iff_ne]; intro e; exact hc (by apply UInt8.toNat_inj.1; have : ((58 : UInt8).toNat : Int) = 58 := rfl; omega)
            have HC := Aside0.mk hc
            clear hc
            go_wp2_with fail
            refine region_facts (ws := []) (G := fun _ w' => Aside0 (w'.heap[w.heap.size]? = some (.cells #[.int .i64 0, .string ByteArray.empty, .int .i64 0, .int .i64 0] 28 (0, 0)) ∧ Below w.heap.size w w')) (φs := [Fact.eq ?vb5n0, Fact.eq (.int .u8 58), Fact.eq ?vb5n2, Fact.eq ?vb5n3, Fact.eq ?vb5n4, Fact.eq ?vb5n5]) (n := 6) (m := 38) (by kernel_rfl) (by kernel_rfl) rfl rfl (by kernel_rfl) (fun _ _ _ h hb => ⟨⟨blk_below h.out.1 hb, below_then h.out.2 h.out.2.size hb⟩⟩) (⟨⟨blk_drew HR.out.1, below_drew HR.out.2⟩⟩) ⟨?ob5n0, ?ob5n1, ?ob5n2, ?ob5n3, ?ob5n4, ?ob5n5, trivial⟩ ?finb5n
            case ob5n0 =>
              refine ask_val [.fix 6 _] rfl 24 rfl (.inl rfl) ⟨⟨by kernel_rfl, by conv => lhs; whnf⟩, trivial⟩ ?_
              dsimp only [Has, Fact.eq]
              intro e ρ w' hc hf hg hG h6
              go_simp
              with_reducible rfl
            case ob5n1 =>
              refine ask_val [.op 24 0 (Fact.eq _)] rfl 25 rfl (.inl rfl) ⟨⟨by kernel_rfl, rfl⟩, trivial⟩ ?_
              dsimp only [Has, Fact.eq]
              intro e ρ w' hc hf hg hG h24
              obtain s0 := hG
              go_simp
              rfl
            case ob5n2 =>
              refine ask_val [.fix 0 _] rfl 26 rfl (.inl rfl) ⟨⟨by kernel_rfl, by conv => lhs; whnf⟩, trivial⟩ ?_
              dsimp only [Has, Fact.eq]
              intro e ρ w' hc hf hg hG h0
              go_simp
              with_reducible rfl
            case ob5n3 =>
              refine ask_val [.fix 1 _] rfl 27 rfl (.inl rfl) ⟨⟨by kernel_rfl, by conv => lhs; whnf⟩, trivial⟩ ?_
              dsimp only [Has, Fact.eq]
              intro e ρ w' hc hf hg hG h1
              go_simp
              with_reducible rfl
            case ob5n4 =>
              refine ask_val [.op 26 2 (Fact.eq _), .op 27 3 (Fact.eq _)] rfl 28 rfl (.inl rfl) ⟨⟨by kernel_rfl, rfl⟩, ⟨by kernel_rfl, rfl⟩, trivial⟩ ?_
              dsimp only [Has, Fact.eq]
              intro e ρ w' hc hf hg hG h26 h27
              obtain s0 := hG
              go_simp
              with_reducible rfl
            case ob5n5 =>
              refine ask_val [.op 25 1 (Fact.eq _), .op 28 4 (Fact.eq _)] rfl 29 rfl (.inl rfl) ⟨⟨by kernel_rfl, rfl⟩, ⟨by kernel_rfl, rfl⟩, trivial⟩ ?_
              dsimp only [Has, Fact.eq]
              intro e ρ w' hc hf hg hG h25 h28
              go_simp
              with_reducible rfl
            case finb5n =>
              intro w' hG
              refine fin_eq (fin_eq (fin_eq (fin_eq (fin_eq (fin_eq (fin_nil (a' := ?_) ?_ ?_))))))
              rotate_left
              · simp only [Act.put, List.setIfInBounds_toArray, List.set_cons_zero, List.set_cons_succ]
                rfl
              clear b1
              go_wp2_with fail
              refine ⟨⟨6, by first | rfl | go_num, by omega, hG, ⟨?_⟩⟩, by simp [intOf]⟩
              rw [show markL.take 6 = markL.take 5 ++ [58] from rfl, List.mem_append, List.mem_singleton, not_or]
              exact ⟨HN.out, HC.out⟩
        · by_cases hc : (s[p]'hp) = 94
          · have b1 : ((94 : Int) == (((s[p]'hp).toNat : Nat) : Int)) = true := by rw [hc]; rfl
            have HC := Aside0.mk hc
            clear hc
            go_wp2_with fail
            refine region_facts (ws := []) (G := fun _ w' => Aside0 (w'.heap[w.heap.size]? = some (.cells #[.int .i64 0, .string ByteArray.empty, .int .i64 0, .int .i64 0] 28 (0, 0)) ∧ Below w.heap.size w w')) (φs := [Fact.eq ?vb6y0, Fact.eq (.int .u8 94), Fact.eq ?vb6y2, Fact.eq ?vb6y3, Fact.eq ?vb6y4, Fact.eq ?vb6y5]) (n := 6) (m := 38) (by kernel_rfl) (by kernel_rfl) rfl rfl (by kernel_rfl) (fun _ _ _ h hb => ⟨⟨blk_below h.out.1 hb, below_then h.out.2 h.out.2.size hb⟩⟩) (⟨⟨blk_drew HR.out.1, below_drew HR.out.2⟩⟩) ⟨?ob6y0, ?ob6y1, ?ob6y2, ?ob6y3, ?ob6y4, ?ob6y5, trivial⟩ ?finb6y
            case ob6y0 =>
              refine ask_val [.fix 6 _] rfl 24 rfl (.inl rfl) ⟨⟨by kernel_rfl, by conv => lhs; whnf⟩, trivial⟩ ?_
              dsimp only [Has, Fact.eq]
              intro e ρ w' hc hf hg hG h6
              go_simp
              with_reducible rfl
            case ob6y1 =>
              refine ask_val [.op 24 0 (Fact.eq _)] rfl 25 rfl (.inl rfl) ⟨⟨by kernel_rfl, rfl⟩, trivial⟩ ?_
              dsimp only [Has, Fact.eq]
              intro e ρ w' hc hf hg hG h24
              obtain s0 := hG
              go_simp
              rfl
            case ob6y2 =>
              refine ask_val [.fix 0 _] rfl 26 rfl (.inl rfl) ⟨⟨by kernel_rfl, by conv => lhs; whnf⟩, trivial⟩ ?_
              dsimp only [Has, Fact.eq]
              intro e ρ w' hc hf hg hG h0
              go_simp
              with_reducible rfl
            case ob6y3 =>
              refine ask_val [.fix 1 _] rfl 27 rfl (.inl rfl) ⟨⟨by kernel_rfl, by conv => lhs; whnf⟩, trivial⟩ ?_
              dsimp only [Has, Fact.eq]
              intro e ρ w' hc hf hg hG h1
              go_simp
              with_reducible rfl
            case ob6y4 =>
              refine ask_val [.op 26 2 (Fact.eq _), .op 27 3 (Fact.eq _)] rfl 28 rfl (.inl rfl) ⟨⟨by kernel_rfl, rfl⟩, ⟨by kernel_rfl, rfl⟩, trivial⟩ ?_
              dsimp only [Has, Fact.eq]
              intro e ρ w' hc hf hg hG h26 h27
              obtain s0 := hG
              go_simp
              with_reducible rfl
            case ob6y5 =>
              refine ask_val [.op 25 1 (Fact.eq _), .op 28 4 (Fact.eq _)] rfl 29 rfl (.inl rfl) ⟨⟨by kernel_rfl, rfl⟩, ⟨by kernel_rfl, rfl⟩, trivial⟩ ?_
              dsimp only [Has, Fact.eq]
              intro e ρ w' hc hf hg hG h25 h28
              go_simp
              with_reducible rfl
            case finb6y =>
              intro w' hG
              refine fin_eq (fin_eq (fin_eq (fin_eq (fin_eq (fin_eq (fin_nil (a' := ?_) ?_ ?_))))))
              rotate_left
              · simp only [Act.put, List.setIfInBounds_toArray, List.set_cons_zero, List.set_cons_succ]
                rfl
              obtain ⟨hk, hb⟩ := hG.out
              have HK := Aside0.mk hk
              have HB := Aside0.mk hb
              clear hk hb hG b1
              go_wp2_with fail
              refine (kinds_calls 6 (by omega) _).mono ?_
              rintro e w5 ⟨rfl, hb5⟩
              replace HK := Aside0.mk (blk_below HK.out hb5)
              replace HB := Aside0.mk (below_then HB.out HB.out.size hb5)
              have hk := HK.out
              have k0 := blk_cell hk 0
              have k1 := blk_cell hk 1
              have k2 := blk_cell hk 2
              have k3 := blk_cell hk 3
              have f0 := fun i => blk_frozen hk i
              clear hb5 hk
              go_wp2_with fail
              refine ref_ret rfl w w5 _ _ _ _ _ _ _ _ _ _ _ HB.out HK.out rfl ?_
              rw [← HO.out, HC.out]
              show _ = _
              first | rfl | simp [tokV]
          · have b1 : ((94 : Int) == (((s[p]'hp).toNat : Nat) : Int)) = false := by rw [beq_eq_false_iff_ne]; intro e; exact hc (by apply UInt8.toNat_inj.1; have : ((94 : UInt8).toNat : Int) = 94 := rfl; omega)
            have HC := Aside0.mk hc
            clear hc
            go_wp2_with fail
            refine region_facts (ws := []) (G := fun _ w' => Aside0 (w'.heap[w.heap.size]? = some (.cells #[.int .i64 0, .string ByteArray.empty, .int .i64 0, .int .i64 0] 28 (0, 0)) ∧ Below w.heap.size w w')) (φs := [Fact.eq ?vb6n0, Fact.eq (.int .u8 94), Fact.eq ?vb6n2, Fact.eq ?vb6n3, Fact.eq ?vb6n4, Fact.eq ?vb6n5]) (n := 6) (m := 38) (by kernel_rfl) (by kernel_rfl) rfl rfl (by kernel_rfl) (fun _ _ _ h hb => ⟨⟨blk_below h.out.1 hb, below_then h.out.2 h.out.2.size hb⟩⟩) (⟨⟨blk_drew HR.out.1, below_drew HR.out.2⟩⟩) ⟨?ob6n0, ?ob6n1, ?ob6n2, ?ob6n3, ?ob6n4, ?ob6n5, trivial⟩ ?finb6n
            case ob6n0 =>
              refine ask_val [.fix 6 _] rfl 24 rfl (.inl rfl) ⟨⟨by kernel_rfl, by conv => lhs; whnf⟩, trivial⟩ ?_
              dsimp only [Has, Fact.eq]
              intro e ρ w' hc hf hg hG h6
              go_simp
              with_reducible rfl
            case ob6n1 =>
              refine ask_val [.op 24 0 (Fact.eq _)] rfl 25 rfl (.inl rfl) ⟨⟨by kernel_rfl, rfl⟩, trivial⟩ ?_
              dsimp only [Has, Fact.eq]
              intro e ρ w' hc hf hg hG h24
              obtain s0 := hG
              go_simp
              rfl
            case ob6n2 =>
              refine ask_val [.fix 0 _] rfl 26 rfl (.inl rfl) ⟨⟨by kernel_rfl, by conv => lhs; whnf⟩, trivial⟩ ?_
              dsimp only [Has, Fact.eq]
              intro e ρ w' hc hf hg hG h0
              go_simp
              with_reducible rfl
            case ob6n3 =>
              refine ask_val [.fix 1 _] rfl 27 rfl (.inl rfl) ⟨⟨by kernel_rfl, by conv => lhs; whnf⟩, trivial⟩ ?_
              dsimp only [Has, Fact.eq]
              intro e ρ w' hc hf hg hG h1
              go_simp
              with_reducible rfl
            case ob6n4 =>
              refine ask_val [.op 26 2 (Fact.eq _), .op 27 3 (Fact.eq _)] rfl 28 rfl (.inl rfl) ⟨⟨by kernel_rfl, rfl⟩, ⟨by kernel_rfl, rfl⟩, trivial⟩ ?_
              dsimp only [Has, Fact.eq]
              intro e ρ w' hc hf hg hG h26 h27
              obtain s0 := hG
              go_simp
              with_reducible rfl
            case ob6n5 =>
              refine ask_val [.op 25 1 (Fact.eq _), .op 28 4 (Fact.eq _)] rfl 29 rfl (.inl rfl) ⟨⟨by kernel_rfl, rfl⟩, ⟨by kernel_rfl, rfl⟩, trivial⟩ ?_
              dsimp only [Has, Fact.eq]
              intro e ρ w' hc hf hg hG h25 h28
              go_simp
              with_reducible rfl
            case finb6n =>
              intro w' hG
              refine fin_eq (fin_eq (fin_eq (fin_eq (fin_eq (fin_eq (fin_nil (a' := ?_) ?_ ?_))))))
              rotate_left
              · simp only [Act.put, List.setIfInBounds_toArray, List.set_cons_zero, List.set_cons_succ]
                rfl
              clear b1
              go_wp2_with fail
              refine ⟨⟨7, by first | rfl | go_num, by omega, hG, ⟨?_⟩⟩, by simp [intOf]⟩
              rw [show markL.take 7 = markL.take 6 ++ [94] from rfl, List.mem_append, List.mem_singleton, not_or]
              exact ⟨HN.out, HC.out⟩
        · by_cases hc : (s[p]'hp) = 46
          · have b1 : ((46 : Int) == (((s[p]'hp).toNat : Nat) : Int)) = true := by rw [hc]; rfl
            have HC := Aside0.mk hc
            clear hc
            go_wp2_with fail
            refine region_facts (ws := []) (G := fun _ w' => Aside0 (w'.heap[w.heap.size]? = some (.cells #[.int .i64 0, .string ByteArray.empty, .int .i64 0, .int .i64 0] 28 (0, 0)) ∧ Below w.heap.size w w')) (φs := [Fact.eq ?vb7y0, Fact.eq (.int .u8 46), Fact.eq ?vb7y2, Fact.eq ?vb7y3, Fact.eq ?vb7y4, Fact.eq ?vb7y5]) (n := 6) (m := 38) (by kernel_rfl) (by kernel_rfl) rfl rfl (by kernel_rfl) (fun _ _ _ h hb => ⟨⟨blk_below h.out.1 hb, below_then h.out.2 h.out.2.size hb⟩⟩) (⟨⟨blk_drew HR.out.1, below_drew HR.out.2⟩⟩) ⟨?ob7y0, ?ob7y1, ?ob7y2, ?ob7y3, ?ob7y4, ?ob7y5, trivial⟩ ?finb7y
            case ob7y0 =>
              refine ask_val [.fix 6 _] rfl 24 rfl (.inl rfl) ⟨⟨by kernel_rfl, by conv => lhs; whnf⟩, trivial⟩ ?_
              dsimp only [Has, Fact.eq]
              intro e ρ w' hc hf hg hG h6
              go_simp
              with_reducible rfl
            case ob7y1 =>
              refine ask_val [.op 24 0 (Fact.eq _)] rfl 25 rfl (.inl rfl) ⟨⟨by kernel_rfl, rfl⟩, trivial⟩ ?_
              dsimp only [Has, Fact.eq]
              intro e ρ w' hc hf hg hG h24
              obtain s0 := hG
              go_simp
              rfl
            case ob7y2 =>
              refine ask_val [.fix 0 _] rfl 26 rfl (.inl rfl) ⟨⟨by kernel_rfl, by conv => lhs; whnf⟩, trivial⟩ ?_
              dsimp only [Has, Fact.eq]
              intro e ρ w' hc hf hg hG h0
              go_simp
              with_reducible rfl
            case ob7y3 =>
              refine ask_val [.fix 1 _] rfl 27 rfl (.inl rfl) ⟨⟨by kernel_rfl, by conv => lhs; whnf⟩, trivial⟩ ?_
              dsimp only [Has, Fact.eq]
              intro e ρ w' hc hf hg hG h1
              go_simp
              with_reducible rfl
            case ob7y4 =>
              refine ask_val [.op 26 2 (Fact.eq _), .op 27 3 (Fact.eq _)] rfl 28 rfl (.inl rfl) ⟨⟨by kernel_rfl, rfl⟩, ⟨by kernel_rfl, rfl⟩, trivial⟩ ?_
              dsimp only [Has, Fact.eq]
              intro e ρ w' hc hf hg hG h26 h27
              obtain s0 := hG
              go_simp
              with_reducible rfl
            case ob7y5 =>
              refine ask_val [.op 25 1 (Fact.eq _), .op 28 4 (Fact.eq _)] rfl 29 rfl (.inl rfl) ⟨⟨by kernel_rfl, rfl⟩, ⟨by kernel_rfl, rfl⟩, trivial⟩ ?_
              dsimp only [Has, Fact.eq]
              intro e ρ w' hc hf hg hG h25 h28
              go_simp
              with_reducible rfl
            case finb7y =>
              intro w' hG
              refine fin_eq (fin_eq (fin_eq (fin_eq (fin_eq (fin_eq (fin_nil (a' := ?_) ?_ ?_))))))
              rotate_left
              · simp only [Act.put, List.setIfInBounds_toArray, List.set_cons_zero, List.set_cons_succ]
                rfl
              obtain ⟨hk, hb⟩ := hG.out
              have HK := Aside0.mk hk
              have HB := Aside0.mk hb
              clear hk hb hG b1
              go_wp2_with fail
              refine (kinds_calls 7 (by omega) _).mono ?_
              rintro e w5 ⟨rfl, hb5⟩
              replace HK := Aside0.mk (blk_below HK.out hb5)
              replace HB := Aside0.mk (below_then HB.out HB.out.size hb5)
              have hk := HK.out
              have k0 := blk_cell hk 0
              have k1 := blk_cell hk 1
              have k2 := blk_cell hk 2
              have k3 := blk_cell hk 3
              have f0 := fun i => blk_frozen hk i
              clear hb5 hk
              go_wp2_with fail
              refine ref_ret rfl w w5 _ _ _ _ _ _ _ _ _ _ _ HB.out HK.out rfl ?_
              rw [← HO.out, HC.out]
              show _ = _
              first | rfl | simp [tokV]
          · have b1 : ((46 : Int) == (((s[p]'hp).toNat : Nat) : Int)) = false := by rw [beq_eq_false_iff_ne]; intro e; exact hc (by apply UInt8.toNat_inj.1; have : ((46 : UInt8).toNat : Int) = 46 := rfl; omega)
            have HC := Aside0.mk hc
            clear hc
            go_wp2_with fail
            refine region_facts (ws := []) (G := fun _ w' => Aside0 (w'.heap[w.heap.size]? = some (.cells #[.int .i64 0, .string ByteArray.empty, .int .i64 0, .int .i64 0] 28 (0, 0)) ∧ Below w.heap.size w w')) (φs := [Fact.eq ?vb7n0, Fact.eq (.int .u8 46), Fact.eq ?vb7n2, Fact.eq ?vb7n3, Fact.eq ?vb7n4, Fact.eq ?vb7n5]) (n := 6) (m := 38) (by kernel_rfl) (by kernel_rfl) rfl rfl (by kernel_rfl) (fun _ _ _ h hb => ⟨⟨blk_below h.out.1 hb, below_then h.out.2 h.out.2.size hb⟩⟩) (⟨⟨blk_drew HR.out.1, below_drew HR.out.2⟩⟩) ⟨?ob7n0, ?ob7n1, ?ob7n2, ?ob7n3, ?ob7n4, ?ob7n5, trivial⟩ ?finb7n
            case ob7n0 =>
              refine ask_val [.fix 6 _] rfl 24 rfl (.inl rfl) ⟨⟨by kernel_rfl, by conv => lhs; whnf⟩, trivial⟩ ?_
              dsimp only [Has, Fact.eq]
              intro e ρ w' hc hf hg hG h6
              go_simp
              with_reducible rfl
            case ob7n1 =>
              refine ask_val [.op 24 0 (Fact.eq _)] rfl 25 rfl (.inl rfl) ⟨⟨by kernel_rfl, rfl⟩, trivial⟩ ?_
              dsimp only [Has, Fact.eq]
              intro e ρ w' hc hf hg hG h24
              obtain s0 := hG
              go_simp
              rfl
            case ob7n2 =>
              refine ask_val [.fix 0 _] rfl 26 rfl (.inl rfl) ⟨⟨by kernel_rfl, by conv => lhs; whnf⟩, trivial⟩ ?_
              dsimp only [Has, Fact.eq]
              intro e ρ w' hc hf hg hG h0
              go_simp
              with_reducible rfl
            case ob7n3 =>
              refine ask_val [.fix 1 _] rfl 27 rfl (.inl rfl) ⟨⟨by kernel_rfl, by conv => lhs; whnf⟩, trivial⟩ ?_
              dsimp only [Has, Fact.eq]
              intro e ρ w' hc hf hg hG h1
              go_simp
              with_reducible rfl
            case ob7n4 =>
              refine ask_val [.op 26 2 (Fact.eq _), .op 27 3 (Fact.eq _)] rfl 28 rfl (.inl rfl) ⟨⟨by kernel_rfl, rfl⟩, ⟨by kernel_rfl, rfl⟩, trivial⟩ ?_
              dsimp only [Has, Fact.eq]
              intro e ρ w' hc hf hg hG h26 h27
              obtain s0 := hG
              go_simp
              with_reducible rfl
            case ob7n5 =>
              refine ask_val [.op 25 1 (Fact.eq _), .op 28 4 (Fact.eq _)] rfl 29 rfl (.inl rfl) ⟨⟨by kernel_rfl, rfl⟩, ⟨by kernel_rfl, rfl⟩, trivial⟩ ?_
              dsimp only [Has, Fact.eq]
              intro e ρ w' hc hf hg hG h25 h28
              go_simp
              with_reducible rfl
            case finb7n =>
              intro w' hG
              refine fin_eq (fin_eq (fin_eq (fin_eq (fin_eq (fin_eq (fin_nil (a' := ?_) ?_ ?_))))))
              rotate_left
              · simp only [Act.put, List.setIfInBounds_toArray, List.set_cons_zero, List.set_cons_succ]
                rfl
              clear b1
              go_wp2_with fail
              refine ⟨⟨8, by first | rfl | go_num, by omega, hG, ⟨?_⟩⟩, by simp [intOf]⟩
              rw [show markL.take 8 = markL.take 7 ++ [46] from rfl, List.mem_append, List.mem_singleton, not_or]
              exact ⟨HN.out, HC.out⟩
        · by_cases hc : (s[p]'hp) = 59
          · have b1 : ((59 : Int) == (((s[p]'hp).toNat : Nat) : Int)) = true := by rw [hc]; rfl
            have HC := Aside0.mk hc
            clear hc
            go_wp2_with fail
            refine region_facts (ws := []) (G := fun _ w' => Aside0 (w'.heap[w.heap.size]? = some (.cells #[.int .i64 0, .string ByteArray.empty, .int .i64 0, .int .i64 0] 28 (0, 0)) ∧ Below w.heap.size w w')) (φs := [Fact.eq ?vb8y0, Fact.eq (.int .u8 59), Fact.eq ?vb8y2, Fact.eq ?vb8y3, Fact.eq ?vb8y4, Fact.eq ?vb8y5]) (n := 6) (m := 38) (by kernel_rfl) (by kernel_rfl) rfl rfl (by kernel_rfl) (fun _ _ _ h hb => ⟨⟨blk_below h.out.1 hb, below_then h.out.2 h.out.2.size hb⟩⟩) (⟨⟨blk_drew HR.out.1, below_drew HR.out.2⟩⟩) ⟨?ob8y0, ?ob8y1, ?ob8y2, ?ob8y3, ?ob8y4, ?ob8y5, trivial⟩ ?finb8y
            case ob8y0 =>
              refine ask_val [.fix 6 _] rfl 24 rfl (.inl rfl) ⟨⟨by kernel_rfl, by conv => lhs; whnf⟩, trivial⟩ ?_
              dsimp only [Has, Fact.eq]
              intro e ρ w' hc hf hg hG h6
              go_simp
              with_reducible rfl
            case ob8y1 =>
              refine ask_val [.op 24 0 (Fact.eq _)] rfl 25 rfl (.inl rfl) ⟨⟨by kernel_rfl, rfl⟩, trivial⟩ ?_
              dsimp only [Has, Fact.eq]
              intro e ρ w' hc hf hg hG h24
              obtain s0 := hG
              go_simp
              rfl
            case ob8y2 =>
              refine ask_val [.fix 0 _] rfl 26 rfl (.inl rfl) ⟨⟨by kernel_rfl, by conv => lhs; whnf⟩, trivial⟩ ?_
              dsimp only [Has, Fact.eq]
              intro e ρ w' hc hf hg hG h0
              go_simp
              with_reducible rfl
            case ob8y3 =>
              refine ask_val [.fix 1 _] rfl 27 rfl (.inl rfl) ⟨⟨by kernel_rfl, by conv => lhs; whnf⟩, trivial⟩ ?_
              dsimp only [Has, Fact.eq]
              intro e ρ w' hc hf hg hG h1
              go_simp
              with_reducible rfl
            case ob8y4 =>
              refine ask_val [.op 26 2 (Fact.eq _), .op 27 3 (Fact.eq _)] rfl 28 rfl (.inl rfl) ⟨⟨by kernel_rfl, rfl⟩, ⟨by kernel_rfl, rfl⟩, trivial⟩ ?_
              dsimp only [Has, Fact.eq]
              intro e ρ w' hc hf hg hG h26 h27
              obtain s0 := hG
              go_simp
              with_reducible rfl
            case ob8y5 =>
              refine ask_val [.op 25 1 (Fact.eq _), .op 28 4 (Fact.eq _)] rfl 29 rfl (.inl rfl) ⟨⟨by kernel_rfl, rfl⟩, ⟨by kernel_rfl, rfl⟩, trivial⟩ ?_
              dsimp only [Has, Fact.eq]
              intro e ρ w' hc hf hg hG h25 h28
              go_simp
              with_reducible rfl
            case finb8y =>
              intro w' hG
              refine fin_eq (fin_eq (fin_eq (fin_eq (fin_eq (fin_eq (fin_nil (a' := ?_) ?_ ?_))))))
              rotate_left
              · simp only [Act.put, List.setIfInBounds_toArray, List.set_cons_zero, List.set_cons_succ]
                rfl
              obtain ⟨hk, hb⟩ := hG.out
              have HK := Aside0.mk hk
              have HB := Aside0.mk hb
              clear hk hb hG b1
              go_wp2_with fail
              refine (kinds_calls 8 (by omega) _).mono ?_
              rintro e w5 ⟨rfl, hb5⟩
              replace HK := Aside0.mk (blk_below HK.out hb5)
              replace HB := Aside0.mk (below_then HB.out HB.out.size hb5)
              have hk := HK.out
              have k0 := blk_cell hk 0
              have k1 := blk_cell hk 1
              have k2 := blk_cell hk 2
              have k3 := blk_cell hk 3
              have f0 := fun i => blk_frozen hk i
              clear hb5 hk
              go_wp2_with fail
              refine ref_ret rfl w w5 _ _ _ _ _ _ _ _ _ _ _ HB.out HK.out rfl ?_
              rw [← HO.out, HC.out]
              show _ = _
              first | rfl | simp [tokV]
          · have b1 : ((59 : Int) == (((s[p]'hp).toNat : Nat) : Int)) = false := by rw [beq_eq_false_iff_ne]; intro e; exact hc (by apply UInt8.toNat_inj.1; have : ((59 : UInt8).toNat : Int) = 59 := rfl; omega)
            have HC := Aside0.mk hc
            clear hc
            go_wp2_with fail
            refine region_facts (ws := []) (G := fun _ w' => Aside0 (w'.heap[w.heap.size]? = some (.cells #[.int .i64 0, .string ByteArray.empty, .int .i64 0, .int .i64 0] 28 (0, 0)) ∧ Below w.heap.size w w')) (φs := [Fact.eq ?vb8n0, Fact.eq (.int .u8 59), Fact.eq ?vb8n2, Fact.eq ?vb8n3, Fact.eq ?vb8n4, Fact.eq ?vb8n5]) (n := 6) (m := 38) (by kernel_rfl) (by kernel_rfl) rfl rfl (by kernel_rfl) (fun _ _ _ h hb => ⟨⟨blk_below h.out.1 hb, below_then h.out.2 h.out.2.size hb⟩⟩) (⟨⟨blk_drew HR.out.1, below_drew HR.out.2⟩⟩) ⟨?ob8n0, ?ob8n1, ?ob8n2, ?ob8n3, ?ob8n4, ?ob8n5, trivial⟩ ?finb8n
            case ob8n0 =>
              refine ask_val [.fix 6 _] rfl 24 rfl (.inl rfl) ⟨⟨by kernel_rfl, by conv => lhs; whnf⟩, trivial⟩ ?_
              dsimp only [Has, Fact.eq]
              intro e ρ w' hc hf hg hG h6
              go_simp
              with_reducible rfl
            case ob8n1 =>
              refine ask_val [.op 24 0 (Fact.eq _)] rfl 25 rfl (.inl rfl) ⟨⟨by kernel_rfl, rfl⟩, trivial⟩ ?_
              dsimp only [Has, Fact.eq]
              intro e ρ w' hc hf hg hG h24
              obtain s0 := hG
              go_simp
              rfl
            case ob8n2 =>
              refine ask_val [.fix 0 _] rfl 26 rfl (.inl rfl) ⟨⟨by kernel_rfl, by conv => lhs; whnf⟩, trivial⟩ ?_
              dsimp only [Has, Fact.eq]
              intro e ρ w' hc hf hg hG h0
              go_simp
              with_reducible rfl
            case ob8n3 =>
              refine ask_val [.fix 1 _] rfl 27 rfl (.inl rfl) ⟨⟨by kernel_rfl, by conv => lhs; whnf⟩, trivial⟩ ?_
              dsimp only [Has, Fact.eq]
              intro e ρ w' hc hf hg hG h1
              go_simp
              with_reducible rfl
            case ob8n4 =>
              refine ask_val [.op 26 2 (Fact.eq _), .op 27 3 (Fact.eq _)] rfl 28 rfl (.inl rfl) ⟨⟨by kernel_rfl, rfl⟩, ⟨by kernel_rfl, rfl⟩, trivial⟩ ?_
              dsimp only [Has, Fact.eq]
              intro e ρ w' hc hf hg hG h26 h27
              obtain s0 := hG
              go_simp
              with_reducible rfl
            case ob8n5 =>
              refine ask_val [.op 25 1 (Fact.eq _), .op 28 4 (Fact.eq _)] rfl 29 rfl (.inl rfl) ⟨⟨by kernel_rfl, rfl⟩, ⟨by kernel_rfl, rfl⟩, trivial⟩ ?_
              dsimp only [Has, Fact.eq]
              intro e ρ w' hc hf hg hG h25 h28
              go_simp
              with_reducible rfl
            case finb8n =>
              intro w' hG
              refine fin_eq (fin_eq (fin_eq (fin_eq (fin_eq (fin_eq (fin_nil (a' := ?_) ?_ ?_))))))
              rotate_left
              · simp only [Act.put, List.setIfInBounds_toArray, List.set_cons_zero, List.set_cons_succ]
                rfl
              clear b1
              go_wp2_with fail
              refine ⟨⟨9, by first | rfl | go_num, by omega, hG, ⟨?_⟩⟩, by simp [intOf]⟩
              rw [show markL.take 9 = markL.take 8 ++ [59] from rfl, List.mem_append, List.mem_singleton, not_or]
              exact ⟨HN.out, HC.out⟩
      · obtain rfl : i = 9 := by omega
        have HM : Aside0 (markKind (s[p]'hp) = 0) := ⟨markL_not HN.out⟩
        have hk := HR.out.1
        have HK := Aside0.mk hk
        have k0 := blk_cell hk 0
        have k1 := blk_cell hk 1
        have k2 := blk_cell hk 2
        have k3 := blk_cell hk 3
        have f0 := fun i => blk_frozen hk i
        clear hk
        go_wp2_with fail
        rw [← HO.out, HM.out]
        refine ref_ret rfl w wr _ _ _ _ _ _ _ _ _ _ _ HR.out.2 HK.out rfl ?_
        show _ = _
        first | rfl | simp [tokV]
theorem refLetter_calls (c : UInt8) (b : Bool) (hb : isL c = b) (w : World) : Calls Tryz.prog 70 #[.int .u8 (c.toNat : Int)] w fun e w' => e = .returned (.bool b) ∧ Below w.heap.size w w' :=
  (kilnref7_letter.calls _ _ w (by rw [← hb]; exact ref_letter c)).mono fun e w' h => ⟨h.1, below_drawn h.2⟩
theorem refDigit_calls (c : UInt8) (b : Bool) (hb : isD c = b) (w : World) : Calls Tryz.prog 73 #[.int .u8 (c.toNat : Int)] w fun e w' => e = .returned (.bool b) ∧ Below w.heap.size w w' :=
  (kilnref7_digit.calls _ _ w (by rw [← hb]; exact ref_digit c)).mono fun e w' h => ⟨h.1, below_drawn h.2⟩
theorem refOpB_calls (c : UInt8) (b : Bool) (hb : isG c = b) (w : World) : Calls Tryz.prog 77 #[.int .u8 (c.toNat : Int)] w fun e w' => e = .returned (.bool b) ∧ Below w.heap.size w w' := by
  have := refOp_calls c w
  rw [hb] at this; exact this
set_option maxHeartbeats 4000000 in
set_option maxRecDepth 1000000 in
theorem token_kw (s : ByteArray) (hs : s.size ≤ 70368744177664) (p : Nat) (hp : p < s.size) (hL : isL (s[p]'hp) = true) (hc : colon ((bl s).drop (p + nameLen ((bl s).drop p))) = true) (w : World) : Calls Tryz.prog 56 #[.string s, .int .i64 (p : Int)] w fun e w' => AnsR (some (⟨2, ((bl s).drop p).take (nameLen ((bl s).drop p)), 0⟩, nameLen ((bl s).drop p) + 1)) p e ∧ Below w.heap.size w w' := by
  have hpi : (p : Int) < (s.size : Int) := by omega
  obtain ⟨n, hn⟩ : ∃ n, nameLen ((bl s).drop p) = n := ⟨_, rfl⟩
  have hnc := refName_calls s (by omega) p (by omega)
  have hle := nameLen_drop_le s p (by omega)
  rw [hn] at hnc hle
  rw [hn] at hc ⊢
  have hcc := refColon_calls s (by omega) (p + n) hle
  have hx : s.extract p (p + n) = ⟨(((bl s).drop p).take n).toArray⟩ := by rw [ext_eq]; congr 4; omega
  rw [hc] at hcc
  have HL := Aside0.mk (refLetter_calls (s[p]'hp) true hL)
  have HN := Aside0.mk (hnc)
  have HC := Aside0.mk (hcc)
  have HX := Aside0.mk (hx)
  have HW : Aside0 (Below w.heap.size w (w.alloc (.cells #[.int .i64 0, .string ByteArray.empty, .int .i64 0, .int .i64 0] 28 (0, 0)))) := ⟨(Below.refl _ _).alloc (Nat.le_refl _) _⟩
  have HK : Aside0 ((w.alloc (.cells #[.int .i64 0, .string ByteArray.empty, .int .i64 0, .int .i64 0] 28 (0, 0))).heap[w.heap.size]? = some (.cells #[.int .i64 0, .string ByteArray.empty, .int .i64 0, .int .i64 0] 28 (0, 0))) := ⟨blk_new _ _⟩
  clear hL hnc hcc hx hc hn
  go_enter Tryz.func56, Tryz.ntmps56
  go_wp2_with (first
    | (go_at_call 70; refine (HL.out _).mono ?_; rintro e w1 ⟨rfl, hb⟩; replace HW := Aside0.mk (below_then HW.out HW.out.size hb); replace HK := Aside0.mk (blk_below HK.out hb); clear hb; have k0 := blk_cell HK.out 0; have k1 := blk_cell HK.out 1; have k2 := blk_cell HK.out 2; have k3 := blk_cell HK.out 3; have f0 := fun i => blk_frozen HK.out i)
    | (go_at_call 71; refine (HN.out _).mono ?_; rintro e w1 ⟨rfl, hb⟩; replace HW := Aside0.mk (below_then HW.out HW.out.size hb); replace HK := Aside0.mk (blk_below HK.out hb); clear hb; have k0 := blk_cell HK.out 0; have k1 := blk_cell HK.out 1; have k2 := blk_cell HK.out 2; have k3 := blk_cell HK.out 3; have f0 := fun i => blk_frozen HK.out i)
    | (go_at_call 72; refine (HC.out _).mono ?_; rintro e w1 ⟨rfl, hb⟩; replace HW := Aside0.mk (below_then HW.out HW.out.size hb); replace HK := Aside0.mk (blk_below HK.out hb); clear hb; have k0 := blk_cell HK.out 0; have k1 := blk_cell HK.out 1; have k2 := blk_cell HK.out 2; have k3 := blk_cell HK.out 3; have f0 := fun i => blk_frozen HK.out i))
  refine ref_ret rfl w _ _ _ _ _ _ _ _ _ _ _ _ HW.out HK.out rfl ?_
  show _ = _
  rw [HX.out]
  first | rfl | simp [tokV]
set_option maxHeartbeats 4000000 in
set_option maxRecDepth 1000000 in
theorem token_nm (s : ByteArray) (hs : s.size ≤ 70368744177664) (p : Nat) (hp : p < s.size) (hL : isL (s[p]'hp) = true) (hc : colon ((bl s).drop (p + nameLen ((bl s).drop p))) = false) (w : World) : Calls Tryz.prog 56 #[.string s, .int .i64 (p : Int)] w fun e w' => AnsR (some (⟨1, ((bl s).drop p).take (nameLen ((bl s).drop p)), 0⟩, nameLen ((bl s).drop p))) p e ∧ Below w.heap.size w w' := by
  have hpi : (p : Int) < (s.size : Int) := by omega
  obtain ⟨n, hn⟩ : ∃ n, nameLen ((bl s).drop p) = n := ⟨_, rfl⟩
  have hnc := refName_calls s (by omega) p (by omega)
  have hle := nameLen_drop_le s p (by omega)
  rw [hn] at hnc hle
  rw [hn] at hc ⊢
  have hcc := refColon_calls s (by omega) (p + n) hle
  have hx : s.extract p (p + n) = ⟨(((bl s).drop p).take n).toArray⟩ := by rw [ext_eq]; congr 4; omega
  rw [hc] at hcc
  have HL := Aside0.mk (refLetter_calls (s[p]'hp) true hL)
  have HN := Aside0.mk (hnc)
  have HC := Aside0.mk (hcc)
  have HX := Aside0.mk (hx)
  have HW : Aside0 (Below w.heap.size w (w.alloc (.cells #[.int .i64 0, .string ByteArray.empty, .int .i64 0, .int .i64 0] 28 (0, 0)))) := ⟨(Below.refl _ _).alloc (Nat.le_refl _) _⟩
  have HK : Aside0 ((w.alloc (.cells #[.int .i64 0, .string ByteArray.empty, .int .i64 0, .int .i64 0] 28 (0, 0))).heap[w.heap.size]? = some (.cells #[.int .i64 0, .string ByteArray.empty, .int .i64 0, .int .i64 0] 28 (0, 0))) := ⟨blk_new _ _⟩
  clear hL hnc hcc hx hc hn
  go_enter Tryz.func56, Tryz.ntmps56
  go_wp2_with (first
    | (go_at_call 70; refine (HL.out _).mono ?_; rintro e w1 ⟨rfl, hb⟩; replace HW := Aside0.mk (below_then HW.out HW.out.size hb); replace HK := Aside0.mk (blk_below HK.out hb); clear hb; have k0 := blk_cell HK.out 0; have k1 := blk_cell HK.out 1; have k2 := blk_cell HK.out 2; have k3 := blk_cell HK.out 3; have f0 := fun i => blk_frozen HK.out i)
    | (go_at_call 71; refine (HN.out _).mono ?_; rintro e w1 ⟨rfl, hb⟩; replace HW := Aside0.mk (below_then HW.out HW.out.size hb); replace HK := Aside0.mk (blk_below HK.out hb); clear hb; have k0 := blk_cell HK.out 0; have k1 := blk_cell HK.out 1; have k2 := blk_cell HK.out 2; have k3 := blk_cell HK.out 3; have f0 := fun i => blk_frozen HK.out i)
    | (go_at_call 72; refine (HC.out _).mono ?_; rintro e w1 ⟨rfl, hb⟩; replace HW := Aside0.mk (below_then HW.out HW.out.size hb); replace HK := Aside0.mk (blk_below HK.out hb); clear hb; have k0 := blk_cell HK.out 0; have k1 := blk_cell HK.out 1; have k2 := blk_cell HK.out 2; have k3 := blk_cell HK.out 3; have f0 := fun i => blk_frozen HK.out i))
  refine ref_ret rfl w _ _ _ _ _ _ _ _ _ _ _ _ HW.out HK.out rfl ?_
  show _ = _
  rw [HX.out]
  first | rfl | simp [tokV]
set_option maxHeartbeats 4000000 in
set_option maxRecDepth 1000000 in
theorem token_num (s : ByteArray) (hs : s.size ≤ 70368744177664) (p : Nat) (hp : p < s.size) (hL : isL (s[p]'hp) = false) (hD : isD (s[p]'hp) = true) (v n : Nat) (hn : digitsLen ((bl s).drop p) = n) (hv : digVal (((bl s).drop p).take n) = v) (hvb : v ≤ 1073741824) (w : World) : Calls Tryz.prog 56 #[.string s, .int .i64 (p : Int)] w fun e w' => AnsR (some (⟨4, [], (v : Int)⟩, n)) p e ∧ Below w.heap.size w w' := by
  have hpi : (p : Int) < (s.size : Int) := by omega
  have hnc := refNumber_calls s (by omega) p (by omega)
  rw [hn] at hnc
  rw [show numVal ((bl s).drop p) = (v : Int) by unfold numVal; rw [hn, hv, if_pos hvb]] at hnc
  have q0 : decide ((v : Int) < 0) = false := decide_eq_false (by omega)
  have HL := Aside0.mk (refLetter_calls (s[p]'hp) false hL)
  have HD := Aside0.mk (refDigit_calls (s[p]'hp) true hD)
  have HN := Aside0.mk (hnc)
  have HW : Aside0 (Below w.heap.size w (w.alloc (.cells #[.int .i64 0, .string ByteArray.empty, .int .i64 0, .int .i64 0] 28 (0, 0)))) := ⟨(Below.refl _ _).alloc (Nat.le_refl _) _⟩
  have HK : Aside0 ((w.alloc (.cells #[.int .i64 0, .string ByteArray.empty, .int .i64 0, .int .i64 0] 28 (0, 0))).heap[w.heap.size]? = some (.cells #[.int .i64 0, .string ByteArray.empty, .int .i64 0, .int .i64 0] 28 (0, 0))) := ⟨blk_new _ _⟩
  clear hL hD hnc hn hv
  go_enter Tryz.func56, Tryz.ntmps56
  go_wp2_with (first
    | (go_at_call 70; refine (HL.out _).mono ?_; rintro e w1 ⟨rfl, hb⟩; replace HW := Aside0.mk (below_then HW.out HW.out.size hb); replace HK := Aside0.mk (blk_below HK.out hb); clear hb; have k0 := blk_cell HK.out 0; have k1 := blk_cell HK.out 1; have k2 := blk_cell HK.out 2; have k3 := blk_cell HK.out 3; have f0 := fun i => blk_frozen HK.out i)
    | (go_at_call 73; refine (HD.out _).mono ?_; rintro e w1 ⟨rfl, hb⟩; replace HW := Aside0.mk (below_then HW.out HW.out.size hb); replace HK := Aside0.mk (blk_below HK.out hb); clear hb; have k0 := blk_cell HK.out 0; have k1 := blk_cell HK.out 1; have k2 := blk_cell HK.out 2; have k3 := blk_cell HK.out 3; have f0 := fun i => blk_frozen HK.out i)
    | (go_at_call 74; refine (HN.out _).mono ?_; rintro e w1 ⟨rfl, hb⟩; replace HW := Aside0.mk (below_then HW.out HW.out.size hb); replace HK := Aside0.mk (blk_below HK.out hb); clear hb; have k0 := blk_cell HK.out 0; have k1 := blk_cell HK.out 1; have k2 := blk_cell HK.out 2; have k3 := blk_cell HK.out 3; have f0 := fun i => blk_frozen HK.out i))
  refine ref_ret rfl w _ _ _ _ _ _ _ _ _ _ _ _ HW.out HK.out rfl ?_
  show _ = _
  first | rfl | simp [tokV]
set_option maxHeartbeats 4000000 in
set_option maxRecDepth 1000000 in
theorem token_big (s : ByteArray) (hs : s.size ≤ 70368744177664) (p : Nat) (hp : p < s.size) (hL : isL (s[p]'hp) = false) (hD : isD (s[p]'hp) = true) (hvb : ¬ digVal (((bl s).drop p).take (digitsLen ((bl s).drop p))) ≤ 1073741824) (w : World) : Calls Tryz.prog 56 #[.string s, .int .i64 (p : Int)] w fun e w' => AnsR (none) p e ∧ Below w.heap.size w w' := by
  have hpi : (p : Int) < (s.size : Int) := by omega
  have hnc := refNumber_calls s (by omega) p (by omega)
  rw [show numVal ((bl s).drop p) = -1 by unfold numVal; rw [if_neg hvb]] at hnc
  obtain ⟨n, hn⟩ : ∃ n, digitsLen ((bl s).drop p) = n := ⟨_, rfl⟩
  rw [hn] at hnc
  have HL := Aside0.mk (refLetter_calls (s[p]'hp) false hL)
  have HD := Aside0.mk (refDigit_calls (s[p]'hp) true hD)
  have HN := Aside0.mk (hnc)
  have HW : Aside0 (Below w.heap.size w (w.alloc (.cells #[.int .i64 0, .string ByteArray.empty, .int .i64 0, .int .i64 0] 28 (0, 0)))) := ⟨(Below.refl _ _).alloc (Nat.le_refl _) _⟩
  have HK : Aside0 ((w.alloc (.cells #[.int .i64 0, .string ByteArray.empty, .int .i64 0, .int .i64 0] 28 (0, 0))).heap[w.heap.size]? = some (.cells #[.int .i64 0, .string ByteArray.empty, .int .i64 0, .int .i64 0] 28 (0, 0))) := ⟨blk_new _ _⟩
  clear hL hD hnc hn hvb
  go_enter Tryz.func56, Tryz.ntmps56
  go_wp2_with (first
    | (go_at_call 70; refine (HL.out _).mono ?_; rintro e w1 ⟨rfl, hb⟩; replace HW := Aside0.mk (below_then HW.out HW.out.size hb); replace HK := Aside0.mk (blk_below HK.out hb); clear hb; have k0 := blk_cell HK.out 0; have k1 := blk_cell HK.out 1; have k2 := blk_cell HK.out 2; have k3 := blk_cell HK.out 3; have f0 := fun i => blk_frozen HK.out i)
    | (go_at_call 73; refine (HD.out _).mono ?_; rintro e w1 ⟨rfl, hb⟩; replace HW := Aside0.mk (below_then HW.out HW.out.size hb); replace HK := Aside0.mk (blk_below HK.out hb); clear hb; have k0 := blk_cell HK.out 0; have k1 := blk_cell HK.out 1; have k2 := blk_cell HK.out 2; have k3 := blk_cell HK.out 3; have f0 := fun i => blk_frozen HK.out i)
    | (go_at_call 74; refine (HN.out _).mono ?_; rintro e w1 ⟨rfl, hb⟩; replace HW := Aside0.mk (below_then HW.out HW.out.size hb); replace HK := Aside0.mk (blk_below HK.out hb); clear hb; have k0 := blk_cell HK.out 0; have k1 := blk_cell HK.out 1; have k2 := blk_cell HK.out 2; have k3 := blk_cell HK.out 3; have f0 := fun i => blk_frozen HK.out i))
  refine ref_ret rfl w _ _ _ _ _ _ _ _ _ _ _ _ HW.out HK.out rfl ?_
  show _ = _
  first | rfl | simp [tokV]
set_option maxHeartbeats 4000000 in
set_option maxRecDepth 1000000 in
theorem token_open (s : ByteArray) (hs : s.size ≤ 70368744177664) (p : Nat) (hp : p < s.size) (hL : isL (s[p]'hp) = false) (hD : isD (s[p]'hp) = false) (hc : (s[p]'hp) = 35) (h2 : ((bl s)[p + 1]? == some 40) = true) (w : World) : Calls Tryz.prog 56 #[.string s, .int .i64 (p : Int)] w fun e w' => AnsR (some (⟨7, [], 0⟩, 2)) p e ∧ Below w.heap.size w w' := by
  have hpi : (p : Int) < (s.size : Int) := by omega
  have q35 : ((((s[p]'hp).toNat : Nat) : Int) == 35) = true := by rw [hc]; rfl
  have HL := Aside0.mk (refLetter_calls (s[p]'hp) false hL)
  have HD := Aside0.mk (refDigit_calls (s[p]'hp) false hD)
  have HI := Aside0.mk (refIsP h2)
  have HW : Aside0 (Below w.heap.size w (w.alloc (.cells #[.int .i64 0, .string ByteArray.empty, .int .i64 0, .int .i64 0] 28 (0, 0)))) := ⟨(Below.refl _ _).alloc (Nat.le_refl _) _⟩
  have HK : Aside0 ((w.alloc (.cells #[.int .i64 0, .string ByteArray.empty, .int .i64 0, .int .i64 0] 28 (0, 0))).heap[w.heap.size]? = some (.cells #[.int .i64 0, .string ByteArray.empty, .int .i64 0, .int .i64 0] 28 (0, 0))) := ⟨blk_new _ _⟩
  clear hL hD hc h2
  go_enter Tryz.func56, Tryz.ntmps56
  go_wp2_with (first
    | (go_at_call 70; refine (HL.out _).mono ?_; rintro e w1 ⟨rfl, hb⟩; replace HW := Aside0.mk (below_then HW.out HW.out.size hb); replace HK := Aside0.mk (blk_below HK.out hb); clear hb; have k0 := blk_cell HK.out 0; have k1 := blk_cell HK.out 1; have k2 := blk_cell HK.out 2; have k3 := blk_cell HK.out 3; have f0 := fun i => blk_frozen HK.out i)
    | (go_at_call 73; refine (HD.out _).mono ?_; rintro e w1 ⟨rfl, hb⟩; replace HW := Aside0.mk (below_then HW.out HW.out.size hb); replace HK := Aside0.mk (blk_below HK.out hb); clear hb; have k0 := blk_cell HK.out 0; have k1 := blk_cell HK.out 1; have k2 := blk_cell HK.out 2; have k3 := blk_cell HK.out 3; have f0 := fun i => blk_frozen HK.out i)
    | (go_at_call 75; refine (HI.out _).mono ?_; rintro e w1 ⟨rfl, hb⟩; replace HW := Aside0.mk (below_then HW.out HW.out.size hb); replace HK := Aside0.mk (blk_below HK.out hb); clear hb; have k0 := blk_cell HK.out 0; have k1 := blk_cell HK.out 1; have k2 := blk_cell HK.out 2; have k3 := blk_cell HK.out 3; have f0 := fun i => blk_frozen HK.out i))
  refine ref_ret rfl w _ _ _ _ _ _ _ _ _ _ _ _ HW.out HK.out rfl ?_
  show _ = _
  first | rfl | simp [tokV]
set_option maxHeartbeats 4000000 in
set_option maxRecDepth 1000000 in
theorem token_nosym (s : ByteArray) (hs : s.size ≤ 70368744177664) (p : Nat) (hp : p < s.size) (hL : isL (s[p]'hp) = false) (hD : isD (s[p]'hp) = false) (hc : (s[p]'hp) = 35) (h2 : ((bl s)[p + 1]? == some 40) = false) (h3 : symLen ((bl s).drop (p + 1)) = 0) (w : World) : Calls Tryz.prog 56 #[.string s, .int .i64 (p : Int)] w fun e w' => AnsR (none) p e ∧ Below w.heap.size w w' := by
  have hpi : (p : Int) < (s.size : Int) := by omega
  have q35 : ((((s[p]'hp).toNat : Nat) : Int) == 35) = true := by rw [hc]; rfl
  obtain ⟨n, hn⟩ : ∃ n, symLen ((bl s).drop (p + 1)) = n := ⟨_, rfl⟩
  have hsc := refSymbol_calls s (by omega) (p + 1) (by omega)
  have hle : p + 1 + n ≤ s.size := by have := symLen_le ((bl s).drop (p + 1)); rw [List.length_drop, bl_len] at this; omega
  rw [hn] at hsc h3
  replace hsc : ∀ W, Calls Tryz.prog 76 #[.string s, .int .i64 ((p : Int) + 1)] W fun e w' => e = .returned (.int .i64 ((p + 1 + n : Nat) : Int)) ∧ Below W.heap.size W w' := hsc
  subst h3
  have HL := Aside0.mk (refLetter_calls (s[p]'hp) false hL)
  have HD := Aside0.mk (refDigit_calls (s[p]'hp) false hD)
  have HI := Aside0.mk (refIsP h2)
  have HS := Aside0.mk (hsc)
  have HW : Aside0 (Below w.heap.size w (w.alloc (.cells #[.int .i64 0, .string ByteArray.empty, .int .i64 0, .int .i64 0] 28 (0, 0)))) := ⟨(Below.refl _ _).alloc (Nat.le_refl _) _⟩
  have HK : Aside0 ((w.alloc (.cells #[.int .i64 0, .string ByteArray.empty, .int .i64 0, .int .i64 0] 28 (0, 0))).heap[w.heap.size]? = some (.cells #[.int .i64 0, .string ByteArray.empty, .int .i64 0, .int .i64 0] 28 (0, 0))) := ⟨blk_new _ _⟩
  clear hL hD hc h2 hsc hn
  go_enter Tryz.func56, Tryz.ntmps56
  go_wp2_with (first
    | (go_at_call 70; refine (HL.out _).mono ?_; rintro e w1 ⟨rfl, hb⟩; replace HW := Aside0.mk (below_then HW.out HW.out.size hb); replace HK := Aside0.mk (blk_below HK.out hb); clear hb; have k0 := blk_cell HK.out 0; have k1 := blk_cell HK.out 1; have k2 := blk_cell HK.out 2; have k3 := blk_cell HK.out 3; have f0 := fun i => blk_frozen HK.out i)
    | (go_at_call 73; refine (HD.out _).mono ?_; rintro e w1 ⟨rfl, hb⟩; replace HW := Aside0.mk (below_then HW.out HW.out.size hb); replace HK := Aside0.mk (blk_below HK.out hb); clear hb; have k0 := blk_cell HK.out 0; have k1 := blk_cell HK.out 1; have k2 := blk_cell HK.out 2; have k3 := blk_cell HK.out 3; have f0 := fun i => blk_frozen HK.out i)
    | (go_at_call 75; refine (HI.out _).mono ?_; rintro e w1 ⟨rfl, hb⟩; replace HW := Aside0.mk (below_then HW.out HW.out.size hb); replace HK := Aside0.mk (blk_below HK.out hb); clear hb; have k0 := blk_cell HK.out 0; have k1 := blk_cell HK.out 1; have k2 := blk_cell HK.out 2; have k3 := blk_cell HK.out 3; have f0 := fun i => blk_frozen HK.out i)
    | (go_at_call 76; refine (HS.out _).mono ?_; rintro e w1 ⟨rfl, hb⟩; replace HW := Aside0.mk (below_then HW.out HW.out.size hb); replace HK := Aside0.mk (blk_below HK.out hb); clear hb; have k0 := blk_cell HK.out 0; have k1 := blk_cell HK.out 1; have k2 := blk_cell HK.out 2; have k3 := blk_cell HK.out 3; have f0 := fun i => blk_frozen HK.out i))
  refine ref_ret rfl w _ _ _ _ _ _ _ _ _ _ _ _ HW.out HK.out rfl ?_
  show _ = _
  first | rfl | simp [tokV]
set_option maxHeartbeats 4000000 in
set_option maxRecDepth 1000000 in
theorem token_sym (s : ByteArray) (hs : s.size ≤ 70368744177664) (p : Nat) (hp : p < s.size) (hL : isL (s[p]'hp) = false) (hD : isD (s[p]'hp) = false) (hc : (s[p]'hp) = 35) (h2 : ((bl s)[p + 1]? == some 40) = false) (n : Nat) (hn : symLen ((bl s).drop (p + 1)) = n) (h3 : 0 < n) (w : World) : Calls Tryz.prog 56 #[.string s, .int .i64 (p : Int)] w fun e w' => AnsR (some (⟨5, ((bl s).drop (p + 1)).take n, 0⟩, n + 1)) p e ∧ Below w.heap.size w w' := by
  have hpi : (p : Int) < (s.size : Int) := by omega
  have q35 : ((((s[p]'hp).toNat : Nat) : Int) == 35) = true := by rw [hc]; rfl
  have hsc := refSymbol_calls s (by omega) (p + 1) (by omega)
  have hle : p + 1 + n ≤ s.size := by have := symLen_le ((bl s).drop (p + 1)); rw [List.length_drop, bl_len] at this; omega
  have hle : p + 1 + n ≤ s.size := by have := symLen_le ((bl s).drop (p + 1)); rw [List.length_drop, bl_len] at this; omega
  rw [hn] at hsc
  replace hsc : ∀ W, Calls Tryz.prog 76 #[.string s, .int .i64 ((p : Int) + 1)] W fun e w' => e = .returned (.int .i64 ((p + 1 + n : Nat) : Int)) ∧ Below W.heap.size W w' := hsc
  have hx : s.extract (p + 1) (p + 1 + n) = ⟨(((bl s).drop (p + 1)).take n).toArray⟩ := by rw [ext_eq]; congr 4; omega
  have q1 : (((p : Int) + 1 + (n : Int)) == (p : Int) + 1) = false := by rw [beq_eq_false_iff_ne]; omega
  have HL := Aside0.mk (refLetter_calls (s[p]'hp) false hL)
  have HD := Aside0.mk (refDigit_calls (s[p]'hp) false hD)
  have HI := Aside0.mk (refIsP h2)
  have HS := Aside0.mk (hsc)
  have HX := Aside0.mk (hx)
  have HW : Aside0 (Below w.heap.size w (w.alloc (.cells #[.int .i64 0, .string ByteArray.empty, .int .i64 0, .int .i64 0] 28 (0, 0)))) := ⟨(Below.refl _ _).alloc (Nat.le_refl _) _⟩
  have HK : Aside0 ((w.alloc (.cells #[.int .i64 0, .string ByteArray.empty, .int .i64 0, .int .i64 0] 28 (0, 0))).heap[w.heap.size]? = some (.cells #[.int .i64 0, .string ByteArray.empty, .int .i64 0, .int .i64 0] 28 (0, 0))) := ⟨blk_new _ _⟩
  clear hL hD hc h2 hsc hn hx
  go_enter Tryz.func56, Tryz.ntmps56
  go_wp2_with (first
    | (go_at_call 70; refine (HL.out _).mono ?_; rintro e w1 ⟨rfl, hb⟩; replace HW := Aside0.mk (below_then HW.out HW.out.size hb); replace HK := Aside0.mk (blk_below HK.out hb); clear hb; have k0 := blk_cell HK.out 0; have k1 := blk_cell HK.out 1; have k2 := blk_cell HK.out 2; have k3 := blk_cell HK.out 3; have f0 := fun i => blk_frozen HK.out i)
    | (go_at_call 73; refine (HD.out _).mono ?_; rintro e w1 ⟨rfl, hb⟩; replace HW := Aside0.mk (below_then HW.out HW.out.size hb); replace HK := Aside0.mk (blk_below HK.out hb); clear hb; have k0 := blk_cell HK.out 0; have k1 := blk_cell HK.out 1; have k2 := blk_cell HK.out 2; have k3 := blk_cell HK.out 3; have f0 := fun i => blk_frozen HK.out i)
    | (go_at_call 75; refine (HI.out _).mono ?_; rintro e w1 ⟨rfl, hb⟩; replace HW := Aside0.mk (below_then HW.out HW.out.size hb); replace HK := Aside0.mk (blk_below HK.out hb); clear hb; have k0 := blk_cell HK.out 0; have k1 := blk_cell HK.out 1; have k2 := blk_cell HK.out 2; have k3 := blk_cell HK.out 3; have f0 := fun i => blk_frozen HK.out i)
    | (go_at_call 76; refine (HS.out _).mono ?_; rintro e w1 ⟨rfl, hb⟩; replace HW := Aside0.mk (below_then HW.out HW.out.size hb); replace HK := Aside0.mk (blk_below HK.out hb); clear hb; have k0 := blk_cell HK.out 0; have k1 := blk_cell HK.out 1; have k2 := blk_cell HK.out 2; have k3 := blk_cell HK.out 3; have f0 := fun i => blk_frozen HK.out i))
  refine ref_ret rfl w _ _ _ _ _ _ _ _ _ _ _ _ HW.out HK.out rfl ?_
  show _ = _
  rw [HX.out]
  first | rfl | (simp [tokV]; omega)
set_option maxHeartbeats 4000000 in
set_option maxRecDepth 1000000 in
theorem token_sign (s : ByteArray) (hs : s.size ≤ 70368744177664) (p : Nat) (hp : p < s.size) (hL : isL (s[p]'hp) = false) (hD : isD (s[p]'hp) = false) (hc : (s[p]'hp) ≠ 35) (hG : isG (s[p]'hp) = true) (n : Nat) (hn : signsLen ((bl s).drop p) = n) (w : World) : Calls Tryz.prog 56 #[.string s, .int .i64 (p : Int)] w fun e w' => AnsR (some (⟨3, ((bl s).drop p).take n, 0⟩, n)) p e ∧ Below w.heap.size w w' := by
  have hpi : (p : Int) < (s.size : Int) := by omega
  have q35 : ((((s[p]'hp).toNat : Nat) : Int) == 35) = false := by rw [beq_eq_false_iff_ne]; intro e; exact hc (by apply UInt8.toNat_inj.1; have : ((35 : UInt8).toNat : Int) = 35 := rfl; omega)
  have hsc := refSigns_calls s (by omega) p (by omega)
  rw [hn] at hsc
  have hle : p + n ≤ s.size := by have := (signsLen_le ((bl s).drop p)).1; rw [List.length_drop, bl_len] at this; omega
  have hx : s.extract p (p + n) = ⟨(((bl s).drop p).take n).toArray⟩ := by rw [ext_eq]; congr 4; omega
  have HL := Aside0.mk (refLetter_calls (s[p]'hp) false hL)
  have HD := Aside0.mk (refDigit_calls (s[p]'hp) false hD)
  have HG := Aside0.mk (refOpB_calls (s[p]'hp) true hG)
  have HS := Aside0.mk (hsc)
  have HX := Aside0.mk (hx)
  have HW : Aside0 (Below w.heap.size w (w.alloc (.cells #[.int .i64 0, .string ByteArray.empty, .int .i64 0, .int .i64 0] 28 (0, 0)))) := ⟨(Below.refl _ _).alloc (Nat.le_refl _) _⟩
  have HK : Aside0 ((w.alloc (.cells #[.int .i64 0, .string ByteArray.empty, .int .i64 0, .int .i64 0] 28 (0, 0))).heap[w.heap.size]? = some (.cells #[.int .i64 0, .string ByteArray.empty, .int .i64 0, .int .i64 0] 28 (0, 0))) := ⟨blk_new _ _⟩
  clear hL hD hc hG hsc hn hx
  go_enter Tryz.func56, Tryz.ntmps56
  go_wp2_with (first
    | (go_at_call 70; refine (HL.out _).mono ?_; rintro e w1 ⟨rfl, hb⟩; replace HW := Aside0.mk (below_then HW.out HW.out.size hb); replace HK := Aside0.mk (blk_below HK.out hb); clear hb; have k0 := blk_cell HK.out 0; have k1 := blk_cell HK.out 1; have k2 := blk_cell HK.out 2; have k3 := blk_cell HK.out 3; have f0 := fun i => blk_frozen HK.out i)
    | (go_at_call 73; refine (HD.out _).mono ?_; rintro e w1 ⟨rfl, hb⟩; replace HW := Aside0.mk (below_then HW.out HW.out.size hb); replace HK := Aside0.mk (blk_below HK.out hb); clear hb; have k0 := blk_cell HK.out 0; have k1 := blk_cell HK.out 1; have k2 := blk_cell HK.out 2; have k3 := blk_cell HK.out 3; have f0 := fun i => blk_frozen HK.out i)
    | (go_at_call 77; refine (HG.out _).mono ?_; rintro e w1 ⟨rfl, hb⟩; replace HW := Aside0.mk (below_then HW.out HW.out.size hb); replace HK := Aside0.mk (blk_below HK.out hb); clear hb; have k0 := blk_cell HK.out 0; have k1 := blk_cell HK.out 1; have k2 := blk_cell HK.out 2; have k3 := blk_cell HK.out 3; have f0 := fun i => blk_frozen HK.out i)
    | (go_at_call 78; refine (HS.out _).mono ?_; rintro e w1 ⟨rfl, hb⟩; replace HW := Aside0.mk (below_then HW.out HW.out.size hb); replace HK := Aside0.mk (blk_below HK.out hb); clear hb; have k0 := blk_cell HK.out 0; have k1 := blk_cell HK.out 1; have k2 := blk_cell HK.out 2; have k3 := blk_cell HK.out 3; have f0 := fun i => blk_frozen HK.out i))
  refine ref_ret rfl w _ _ _ _ _ _ _ _ _ _ _ _ HW.out HK.out rfl ?_
  show _ = _
  rw [HX.out]
  first | rfl | simp [tokV]
set_option maxHeartbeats 4000000 in
set_option maxRecDepth 1000000 in
theorem token_text (s : ByteArray) (hs : s.size ≤ 70368744177664) (p : Nat) (hp : p < s.size) (hL : isL (s[p]'hp) = false) (hD : isD (s[p]'hp) = false) (hc : (s[p]'hp) ≠ 35) (hG : isG (s[p]'hp) = false) (h39 : (s[p]'hp) = 39) (b : List UInt8) (m : Nat) (ht : textOf ((bl s).drop (p + 1)) = some (b, m)) (w : World) : Calls Tryz.prog 56 #[.string s, .int .i64 (p : Int)] w fun e w' => AnsR (some (⟨6, b, 0⟩, m + 1)) p e ∧ Below w.heap.size w w' := by
  have hpi : (p : Int) < (s.size : Int) := by omega
  have q35 : ((((s[p]'hp).toNat : Nat) : Int) == 35) = false := by rw [beq_eq_false_iff_ne]; intro e; exact hc (by apply UInt8.toNat_inj.1; have : ((35 : UInt8).toNat : Int) = 35 := rfl; omega)
  have q39 : ((((s[p]'hp).toNat : Nat) : Int) == 39) = true := by rw [h39]; rfl
  have htc := refText_calls s hs p hp
  rw [ht] at htc
  simp only [] at htc
  have HL := Aside0.mk (refLetter_calls (s[p]'hp) false hL)
  have HD := Aside0.mk (refDigit_calls (s[p]'hp) false hD)
  have HG := Aside0.mk (refOpB_calls (s[p]'hp) false hG)
  have HT := Aside0.mk (htc)
  have HW : Aside0 (Below w.heap.size w (w.alloc (.cells #[.int .i64 0, .string ByteArray.empty, .int .i64 0, .int .i64 0] 28 (0, 0)))) := ⟨(Below.refl _ _).alloc (Nat.le_refl _) _⟩
  have HK : Aside0 ((w.alloc (.cells #[.int .i64 0, .string ByteArray.empty, .int .i64 0, .int .i64 0] 28 (0, 0))).heap[w.heap.size]? = some (.cells #[.int .i64 0, .string ByteArray.empty, .int .i64 0, .int .i64 0] 28 (0, 0))) := ⟨blk_new _ _⟩
  clear hL hD hc hG h39 ht htc
  go_enter Tryz.func56, Tryz.ntmps56
  go_wp2_with (first
    | (go_at_call 70; refine (HL.out _).mono ?_; rintro e w1 ⟨rfl, hb⟩; replace HW := Aside0.mk (below_then HW.out HW.out.size hb); replace HK := Aside0.mk (blk_below HK.out hb); clear hb; have k0 := blk_cell HK.out 0; have k1 := blk_cell HK.out 1; have k2 := blk_cell HK.out 2; have k3 := blk_cell HK.out 3; have f0 := fun i => blk_frozen HK.out i)
    | (go_at_call 73; refine (HD.out _).mono ?_; rintro e w1 ⟨rfl, hb⟩; replace HW := Aside0.mk (below_then HW.out HW.out.size hb); replace HK := Aside0.mk (blk_below HK.out hb); clear hb; have k0 := blk_cell HK.out 0; have k1 := blk_cell HK.out 1; have k2 := blk_cell HK.out 2; have k3 := blk_cell HK.out 3; have f0 := fun i => blk_frozen HK.out i)
    | (go_at_call 77; refine (HG.out _).mono ?_; rintro e w1 ⟨rfl, hb⟩; replace HW := Aside0.mk (below_then HW.out HW.out.size hb); replace HK := Aside0.mk (blk_below HK.out hb); clear hb; have k0 := blk_cell HK.out 0; have k1 := blk_cell HK.out 1; have k2 := blk_cell HK.out 2; have k3 := blk_cell HK.out 3; have f0 := fun i => blk_frozen HK.out i)
    | (go_at_call 79; refine (HT.out _).mono ?_; rintro e w1 ⟨rfl, hb⟩; replace HW := Aside0.mk (below_then HW.out HW.out.size hb); replace HK := Aside0.mk (blk_below HK.out hb); clear hb; have k0 := blk_cell HK.out 0; have k1 := blk_cell HK.out 1; have k2 := blk_cell HK.out 2; have k3 := blk_cell HK.out 3; have f0 := fun i => blk_frozen HK.out i))
  refine ref_ret rfl w _ _ _ _ _ _ _ _ _ _ _ _ HW.out HK.out rfl ?_
  show _ = _
  first | rfl | (simp [tokV]; omega)
set_option maxHeartbeats 4000000 in
set_option maxRecDepth 1000000 in
theorem token_notext (s : ByteArray) (hs : s.size ≤ 70368744177664) (p : Nat) (hp : p < s.size) (hL : isL (s[p]'hp) = false) (hD : isD (s[p]'hp) = false) (hc : (s[p]'hp) ≠ 35) (hG : isG (s[p]'hp) = false) (h39 : (s[p]'hp) = 39) (ht : textOf ((bl s).drop (p + 1)) = none) (w : World) : Calls Tryz.prog 56 #[.string s, .int .i64 (p : Int)] w fun e w' => AnsR (none) p e ∧ Below w.heap.size w w' := by
  have hpi : (p : Int) < (s.size : Int) := by omega
  have q35 : ((((s[p]'hp).toNat : Nat) : Int) == 35) = false := by rw [beq_eq_false_iff_ne]; intro e; exact hc (by apply UInt8.toNat_inj.1; have : ((35 : UInt8).toNat : Int) = 35 := rfl; omega)
  have q39 : ((((s[p]'hp).toNat : Nat) : Int) == 39) = true := by rw [h39]; rfl
  have htc := refText_calls s hs p hp
  rw [ht] at htc
  simp only [] at htc
  have HL := Aside0.mk (refLetter_calls (s[p]'hp) false hL)
  have HD := Aside0.mk (refDigit_calls (s[p]'hp) false hD)
  have HG := Aside0.mk (refOpB_calls (s[p]'hp) false hG)
  have HT := Aside0.mk (htc)
  have HW : Aside0 (Below w.heap.size w (w.alloc (.cells #[.int .i64 0, .string ByteArray.empty, .int .i64 0, .int .i64 0] 28 (0, 0)))) := ⟨(Below.refl _ _).alloc (Nat.le_refl _) _⟩
  have HK : Aside0 ((w.alloc (.cells #[.int .i64 0, .string ByteArray.empty, .int .i64 0, .int .i64 0] 28 (0, 0))).heap[w.heap.size]? = some (.cells #[.int .i64 0, .string ByteArray.empty, .int .i64 0, .int .i64 0] 28 (0, 0))) := ⟨blk_new _ _⟩
  clear hL hD hc hG h39 ht htc
  go_enter Tryz.func56, Tryz.ntmps56
  go_wp2_with (first
    | (go_at_call 70; refine (HL.out _).mono ?_; rintro e w1 ⟨rfl, hb⟩; replace HW := Aside0.mk (below_then HW.out HW.out.size hb); replace HK := Aside0.mk (blk_below HK.out hb); clear hb; have k0 := blk_cell HK.out 0; have k1 := blk_cell HK.out 1; have k2 := blk_cell HK.out 2; have k3 := blk_cell HK.out 3; have f0 := fun i => blk_frozen HK.out i)
    | (go_at_call 73; refine (HD.out _).mono ?_; rintro e w1 ⟨rfl, hb⟩; replace HW := Aside0.mk (below_then HW.out HW.out.size hb); replace HK := Aside0.mk (blk_below HK.out hb); clear hb; have k0 := blk_cell HK.out 0; have k1 := blk_cell HK.out 1; have k2 := blk_cell HK.out 2; have k3 := blk_cell HK.out 3; have f0 := fun i => blk_frozen HK.out i)
    | (go_at_call 77; refine (HG.out _).mono ?_; rintro e w1 ⟨rfl, hb⟩; replace HW := Aside0.mk (below_then HW.out HW.out.size hb); replace HK := Aside0.mk (blk_below HK.out hb); clear hb; have k0 := blk_cell HK.out 0; have k1 := blk_cell HK.out 1; have k2 := blk_cell HK.out 2; have k3 := blk_cell HK.out 3; have f0 := fun i => blk_frozen HK.out i)
    | (go_at_call 79; refine (HT.out _).mono ?_; rintro e w1 ⟨rfl, hb⟩; replace HW := Aside0.mk (below_then HW.out HW.out.size hb); replace HK := Aside0.mk (blk_below HK.out hb); clear hb; have k0 := blk_cell HK.out 0; have k1 := blk_cell HK.out 1; have k2 := blk_cell HK.out 2; have k3 := blk_cell HK.out 3; have f0 := fun i => blk_frozen HK.out i))
  refine ref_ret rfl w _ _ _ _ _ _ _ _ _ _ _ _ HW.out HK.out rfl ?_
  show _ = _
  first | rfl | simp [tokV]
set_option maxHeartbeats 4000000 in
set_option maxRecDepth 1000000 in
theorem token_mark_none (s : ByteArray) (hs : s.size ≤ 70368744177664) (p : Nat) (hp : p < s.size) (hL : isL (s[p]'hp) = false) (hD : isD (s[p]'hp) = false) (hc : (s[p]'hp) ≠ 35) (hG : isG (s[p]'hp) = false) (h39 : (s[p]'hp) ≠ 39) (hm : ∀ W, Calls Tryz.prog 80 #[.string s, .int .i64 (p : Int)] W fun e w' => AnsR (none) p e ∧ Below W.heap.size W w') (w : World) : Calls Tryz.prog 56 #[.string s, .int .i64 (p : Int)] w fun e w' => AnsR (none) p e ∧ Below w.heap.size w w' := by
  have hpi : (p : Int) < (s.size : Int) := by omega
  have q35 : ((((s[p]'hp).toNat : Nat) : Int) == 35) = false := by rw [beq_eq_false_iff_ne]; intro e; exact hc (by apply UInt8.toNat_inj.1; have : ((35 : UInt8).toNat : Int) = 35 := rfl; omega)
  have q39 : ((((s[p]'hp).toNat : Nat) : Int) == 39) = false := by rw [beq_eq_false_iff_ne]; intro e; exact h39 (by apply UInt8.toNat_inj.1; have : ((39 : UInt8).toNat : Int) = 39 := rfl; omega)
  have HL := Aside0.mk (refLetter_calls (s[p]'hp) false hL)
  have HD := Aside0.mk (refDigit_calls (s[p]'hp) false hD)
  have HG := Aside0.mk (refOpB_calls (s[p]'hp) false hG)
  have HM := Aside0.mk (hm)
  have HW : Aside0 (Below w.heap.size w (w.alloc (.cells #[.int .i64 0, .string ByteArray.empty, .int .i64 0, .int .i64 0] 28 (0, 0)))) := ⟨(Below.refl _ _).alloc (Nat.le_refl _) _⟩
  have HK : Aside0 ((w.alloc (.cells #[.int .i64 0, .string ByteArray.empty, .int .i64 0, .int .i64 0] 28 (0, 0))).heap[w.heap.size]? = some (.cells #[.int .i64 0, .string ByteArray.empty, .int .i64 0, .int .i64 0] 28 (0, 0))) := ⟨blk_new _ _⟩
  clear hL hD hc hG h39 hm
  go_enter Tryz.func56, Tryz.ntmps56
  go_wp2_with (first
    | (go_at_call 70; refine (HL.out _).mono ?_; rintro e w1 ⟨rfl, hb⟩; replace HW := Aside0.mk (below_then HW.out HW.out.size hb); replace HK := Aside0.mk (blk_below HK.out hb); clear hb; have k0 := blk_cell HK.out 0; have k1 := blk_cell HK.out 1; have k2 := blk_cell HK.out 2; have k3 := blk_cell HK.out 3; have f0 := fun i => blk_frozen HK.out i)
    | (go_at_call 73; refine (HD.out _).mono ?_; rintro e w1 ⟨rfl, hb⟩; replace HW := Aside0.mk (below_then HW.out HW.out.size hb); replace HK := Aside0.mk (blk_below HK.out hb); clear hb; have k0 := blk_cell HK.out 0; have k1 := blk_cell HK.out 1; have k2 := blk_cell HK.out 2; have k3 := blk_cell HK.out 3; have f0 := fun i => blk_frozen HK.out i)
    | (go_at_call 80; refine (HM.out _).mono ?_; rintro e w1 ⟨he, hb⟩; obtain rfl : e = .returned (.tuple #[.agg #[.int .i64 0, .string ⟨#[]⟩, .int .i64 0, .int .i64 0], .int .i64 (p : Int)]) := he; replace HW := Aside0.mk (below_then HW.out HW.out.size hb); replace HK := Aside0.mk (blk_below HK.out hb); clear hb; have k0 := blk_cell HK.out 0; have k1 := blk_cell HK.out 1; have k2 := blk_cell HK.out 2; have k3 := blk_cell HK.out 3; have f0 := fun i => blk_frozen HK.out i)
    | (go_at_call 77; refine (HG.out _).mono ?_; rintro e w1 ⟨rfl, hb⟩; replace HW := Aside0.mk (below_then HW.out HW.out.size hb); replace HK := Aside0.mk (blk_below HK.out hb); clear hb; have k0 := blk_cell HK.out 0; have k1 := blk_cell HK.out 1; have k2 := blk_cell HK.out 2; have k3 := blk_cell HK.out 3; have f0 := fun i => blk_frozen HK.out i))
  refine ref_ret rfl w _ _ _ _ _ _ _ _ _ _ _ _ HW.out HK.out rfl ?_
  show _ = _
  first | rfl | simp [tokV]
set_option maxHeartbeats 4000000 in
set_option maxRecDepth 1000000 in
theorem token_mark_some (s : ByteArray) (hs : s.size ≤ 70368744177664) (p : Nat) (hp : p < s.size) (hL : isL (s[p]'hp) = false) (hD : isD (s[p]'hp) = false) (hc : (s[p]'hp) ≠ 35) (hG : isG (s[p]'hp) = false) (h39 : (s[p]'hp) ≠ 39) (t : Tok) (n : Nat) (hm : ∀ W, Calls Tryz.prog 80 #[.string s, .int .i64 (p : Int)] W fun e w' => AnsR (some (t, n)) p e ∧ Below W.heap.size W w') (w : World) : Calls Tryz.prog 56 #[.string s, .int .i64 (p : Int)] w fun e w' => AnsR (some (t, n)) p e ∧ Below w.heap.size w w' := by
  have hpi : (p : Int) < (s.size : Int) := by omega
  have q35 : ((((s[p]'hp).toNat : Nat) : Int) == 35) = false := by rw [beq_eq_false_iff_ne]; intro e; exact hc (by apply UInt8.toNat_inj.1; have : ((35 : UInt8).toNat : Int) = 35 := rfl; omega)
  have q39 : ((((s[p]'hp).toNat : Nat) : Int) == 39) = false := by rw [beq_eq_false_iff_ne]; intro e; exact h39 (by apply UInt8.toNat_inj.1; have : ((39 : UInt8).toNat : Int) = 39 := rfl; omega)
  have HL := Aside0.mk (refLetter_calls (s[p]'hp) false hL)
  have HD := Aside0.mk (refDigit_calls (s[p]'hp) false hD)
  have HG := Aside0.mk (refOpB_calls (s[p]'hp) false hG)
  have HM := Aside0.mk (hm)
  have HW : Aside0 (Below w.heap.size w (w.alloc (.cells #[.int .i64 0, .string ByteArray.empty, .int .i64 0, .int .i64 0] 28 (0, 0)))) := ⟨(Below.refl _ _).alloc (Nat.le_refl _) _⟩
  have HK : Aside0 ((w.alloc (.cells #[.int .i64 0, .string ByteArray.empty, .int .i64 0, .int .i64 0] 28 (0, 0))).heap[w.heap.size]? = some (.cells #[.int .i64 0, .string ByteArray.empty, .int .i64 0, .int .i64 0] 28 (0, 0))) := ⟨blk_new _ _⟩
  clear hL hD hc hG h39 hm
  go_enter Tryz.func56, Tryz.ntmps56
  go_wp2_with (first
    | (go_at_call 70; refine (HL.out _).mono ?_; rintro e w1 ⟨rfl, hb⟩; replace HW := Aside0.mk (below_then HW.out HW.out.size hb); replace HK := Aside0.mk (blk_below HK.out hb); clear hb; have k0 := blk_cell HK.out 0; have k1 := blk_cell HK.out 1; have k2 := blk_cell HK.out 2; have k3 := blk_cell HK.out 3; have f0 := fun i => blk_frozen HK.out i)
    | (go_at_call 73; refine (HD.out _).mono ?_; rintro e w1 ⟨rfl, hb⟩; replace HW := Aside0.mk (below_then HW.out HW.out.size hb); replace HK := Aside0.mk (blk_below HK.out hb); clear hb; have k0 := blk_cell HK.out 0; have k1 := blk_cell HK.out 1; have k2 := blk_cell HK.out 2; have k3 := blk_cell HK.out 3; have f0 := fun i => blk_frozen HK.out i)
    | (go_at_call 80; refine (HM.out _).mono ?_; rintro e w1 ⟨he, hb⟩; obtain rfl : e = .returned (.tuple #[.agg #[.int .i64 t.kind, .string ⟨t.text.toArray⟩, .int .i64 t.num, .int .i64 (p : Int)], .int .i64 ((p + n : Nat) : Int)]) := he; replace HW := Aside0.mk (below_then HW.out HW.out.size hb); replace HK := Aside0.mk (blk_below HK.out hb); clear hb; have k0 := blk_cell HK.out 0; have k1 := blk_cell HK.out 1; have k2 := blk_cell HK.out 2; have k3 := blk_cell HK.out 3; have f0 := fun i => blk_frozen HK.out i)
    | (go_at_call 77; refine (HG.out _).mono ?_; rintro e w1 ⟨rfl, hb⟩; replace HW := Aside0.mk (below_then HW.out HW.out.size hb); replace HK := Aside0.mk (blk_below HK.out hb); clear hb; have k0 := blk_cell HK.out 0; have k1 := blk_cell HK.out 1; have k2 := blk_cell HK.out 2; have k3 := blk_cell HK.out 3; have f0 := fun i => blk_frozen HK.out i))
  refine ref_ret rfl w _ _ _ _ _ _ _ _ _ _ _ _ HW.out HK.out rfl ?_
  show _ = _
  first | rfl | simp [tokV]
theorem token_calls (s : ByteArray) (hs : s.size ≤ 70368744177664) (p : Nat) (hp : p < s.size) (w : World) : Calls Tryz.prog 56 #[.string s, .int .i64 (p : Int)] w fun e w' => AnsR (tok ((bl s).drop p)) p e ∧ Below w.heap.size w w' := by
  have hd := drop_at s p hp
  have ht : tok ((bl s).drop p) = tok ((s[p]'hp) :: (bl s).drop (p + 1)) := by rw [hd]
  rw [ht, tok]
  cases hL : isL (s[p]'hp) with
  | true =>
    rw [if_pos rfl, ← hd]
    by_cases hc : colon (((bl s).drop p).drop (nameLen ((bl s).drop p))) = true
    · rw [if_pos hc]
      rw [List.drop_drop] at hc
      exact token_kw s hs p hp hL hc w
    · rw [if_neg hc]
      rw [List.drop_drop] at hc
      exact token_nm s hs p hp hL (by simpa using hc) w
  | false =>
    rw [if_neg (by simp)]
    cases hD : isD (s[p]'hp) with
    | true =>
      rw [if_pos rfl, ← hd]
      by_cases hv : digVal (((bl s).drop p).take (digitsLen ((bl s).drop p))) ≤ 1073741824
      · rw [if_pos hv]
        exact token_num s hs p hp hL hD _ _ rfl rfl hv w
      · rw [if_neg hv]
        exact token_big s hs p hp hL hD hv w
    | false =>
      rw [if_neg (by simp)]
      by_cases h35 : (s[p]'hp) = 35
      · rw [if_pos h35]
        have e40 : ((bl s).drop (p + 1))[0]? = (bl s)[p + 1]? := by rw [List.getElem?_drop]
        by_cases h40 : ((bl s).drop (p + 1))[0]? = some 40
        · rw [if_pos h40]
          exact token_open s hs p hp hL hD h35 (by rw [← e40, h40]; rfl) w
        · rw [if_neg h40]
          have h40' : ((bl s)[p + 1]? == some 40) = false := by rw [← e40]; exact beq_eq_false_iff_ne.2 h40
          by_cases hz : 0 < symLen ((bl s).drop (p + 1))
          · rw [if_pos hz]
            exact token_sym s hs p hp hL hD h35 h40' _ rfl hz w
          · rw [if_neg hz]
            exact token_nosym s hs p hp hL hD h35 h40' (by omega) w
      · rw [if_neg h35]
        by_cases h39 : (s[p]'hp) = 39
        · rw [if_pos h39]
          have hG : isG (s[p]'hp) = false := by rw [h39]; rfl
          cases ht : textOf ((bl s).drop (p + 1)) with
          | none => exact token_notext s hs p hp hL hD h35 hG h39 ht w
          | some q => exact token_text s hs p hp hL hD h35 hG h39 q.1 q.2 ht w
        · rw [if_neg h39]
          cases hG : isG (s[p]'hp) with
          | true =>
            rw [if_pos rfl, ← hd]
            exact token_sign s hs p hp hL hD h35 hG _ rfl w
          | false =>
            rw [if_neg (by simp)]
            have e61 : ((bl s).drop (p + 1))[0]? = (bl s)[p + 1]? := by rw [List.getElem?_drop]
            have e58 : ((bl s)[p]? == some 58) = decide ((s[p]'hp) = 58) := by rw [bl_get s p hp, Bool.eq_iff_iff]; simp
            by_cases hc : (s[p]'hp) = 58 ∧ ((bl s).drop (p + 1))[0]? = some 61
            · rw [if_pos hc]
              exact token_mark_some s hs p hp hL hD h35 hG h39 ⟨14, [], 0⟩ 2 (fun W => mark_assign s hs p hp (by rw [e58, decide_eq_true hc.1]) (by rw [← e61, hc.2]; rfl) W) w
            · rw [if_neg hc]
              have h12 : (((bl s)[p]? == some 58) && ((bl s)[p + 1]? == some 61)) = false := by
                rw [e58, ← e61]
                rcases Classical.not_and_iff_not_or_not.1 hc with h | h
                · rw [decide_eq_false h]; rfl
                · rw [beq_eq_false_iff_ne.2 h, Bool.and_false]
              have hm := fun o ho W => mark_loop s hs p hp _ _ rfl rfl h12 o ho W
              by_cases hk : markKind (s[p]'hp) = 0
              · rw [if_pos hk]
                exact token_mark_none s hs p hp hL hD h35 hG h39 (fun W => hm none (if_pos hk) W) w
              · rw [if_neg hk]
                exact token_mark_some s hs p hp hL hD h35 hG h39 _ _ (fun W => hm _ (if_neg hk) W) w
end Go.Proofs.YtjibdaigclgmhaaGreatDoor.LexW
