/- script's reader of a line, an act's line, walked. Conditions: those that each theorem states. -/
import Derived.Test.YtkfjjmmpbfjhaaaGreatDoorScrX2
import Derived.Test.YtkfjjmmpbfjhaaaGreatDoorScrN
namespace Go.Proofs.YtkfjjmmpbfjhaaaGreatDoor.Tells
open Go.RowKit Go.Proofs.YtkfjjmmpbfjhaaaGreatDoor.Facts Go.Proofs.YtkfjjmmpbfjhaaaGreatDoor.PScriptActs Go.Proofs.YtkfjjmmpbfjhaaaGreatDoorW.PrintWords Go.Proofs.YtkfjjmmpbfjhaaaGreatDoorW.PrintLast Go.Proofs.YtkfjjmmpbfjhaaaGreatDoorW.PrintMore
attribute [local go_sem] max2_int min2_int max_two min_two max_three min_three max_four min_four
set_option linter.unusedVariables false
set_option linter.unusedSimpArgs false
theorem kindAt_skip (x : ByteArray) : ∀ (i n m : Nat), n + m = 12 → (∀ j, m ≤ j → j < m + i → nameL.getD j ⟨#[]⟩ ≠ x) → i ≤ n → kindAt x n m = kindAt x (n - i) (m + i)
  | 0, n, m, _, _, _ => rfl
  | i + 1, 0, m, _, _, h => by omega
  | i + 1, n + 1, m, hm, hne, hi => by
    rw [kindAt, if_neg (hne m (Nat.le_refl _) (by omega)), kindAt_skip x i n (m + 1) (by omega) (fun j h1 h2 => hne j (by omega) (by omega)) (by omega)]
    rw [show n + 1 - (i + 1) = n - i by omega, show m + 1 + i = m + (i + 1) by omega]
theorem kindR_found (x : ByteArray) (i : Nat) (hi : i < 12) (hne : ∀ j, j < i → nameL.getD j ⟨#[]⟩ ≠ x) (he : nameL.getD i ⟨#[]⟩ = x) : kindR x = i + 1 := by
  unfold kindR
  rw [kindAt_skip x i 12 0 rfl (fun j _ h => hne j (by omega)) (by omega)]
  obtain ⟨n, hn⟩ : ∃ n, 12 - i = n + 1 := ⟨11 - i, by omega⟩
  rw [hn, kindAt, Nat.zero_add, if_pos he]
theorem kindR_none (x : ByteArray) (hne : ∀ j, j < 12 → nameL.getD j ⟨#[]⟩ ≠ x) : kindR x = 0 := by
  unfold kindR
  rw [kindAt_skip x 12 12 0 rfl (fun j _ h => hne j (by omega)) (by omega)]
  rfl
/-- the code of an act's line -/
def codeA (ws : List ByteArray) : Int := if kindR (ws.getD 0 ByteArray.empty) = 0 then 242 else codeR (kindR (ws.getD 0 ByteArray.empty)) ws.tail
def actA (ws : List ByteArray) : S31 := actR (kindR (ws.getD 0 ByteArray.empty)) ws.tail
theorem alike_act {k : Int} {cs : Array Value} (h : Alike (cs0 k) cs) : ∃ i0 n0 s1 s2 A l c s4 i5 n5 i6 n6, cs = #[.int i0 n0, .string s1, .string s2, .slice A l c, .string s4, .int i5 n5, .int i6 n6] := by
  unfold Alike at h
  rcases cs with ⟨l⟩
  have hl : l.length = 7 := by have := congrArg List.length h; simpa [cs0] using this
  rcases l with _ | ⟨x0, _ | ⟨x1, _ | ⟨x2, _ | ⟨x3, _ | ⟨x4, _ | ⟨x5, _ | ⟨x6, _ | ⟨x7, l⟩⟩⟩⟩⟩⟩⟩⟩ <;> simp at hl
  simp [cs0, shp] at h
  obtain ⟨h0, h1, h2, h3, h4, h5, h6⟩ := h
  have ki : ∀ x, shp x = 1 → ∃ i n, x = .int i n := by intro x hx; cases x <;> simp [shp] at hx; exact ⟨_, _, rfl⟩
  have ks : ∀ x, shp x = 2 → ∃ s, x = .string s := by intro x hx; cases x <;> simp [shp] at hx; exact ⟨_, rfl⟩
  have kl : ∀ x, shp x = 3 → ∃ A l c, x = .slice A l c := by intro x hx; cases x <;> simp [shp] at hx; exact ⟨_, _, _, rfl⟩
  obtain ⟨i0, n0, rfl⟩ := ki x0 h0
  obtain ⟨s1, rfl⟩ := ks x1 h1
  obtain ⟨s2, rfl⟩ := ks x2 h2
  obtain ⟨A, l, c, rfl⟩ := kl x3 h3
  obtain ⟨s4, rfl⟩ := ks x4 h4
  obtain ⟨i5, n5, rfl⟩ := ki x5 h5
  obtain ⟨i6, n6, rfl⟩ := ki x6 h6
  exact ⟨i0, n0, s1, s2, A, l, c, s4, i5, n5, i6, n6, rfl⟩
set_option maxHeartbeats 4000000 in
set_option maxRecDepth 100000 in
theorem line_act (w : World) (g b : Nat) (p0 p1 : Int) (v : Value) (acts : List S31) (A : Option Addr) (ws : List ByteArray) (c : Nat) (hI : LineIn w g (rdC p0 p1 v 1) A ws) (hc : ws.length ≤ c) (hn : ws.length ≤ 1073741824) (hgb : g < b) (hbw : b ≤ w.heap.size) (hS : Kd.S k31 31 w b (fun _ => True) v acts) (hal : acts.length ≤ 1073741824) :
    Calls Tryz.prog 35 #[.pointer (some ⟨g, 0, none⟩), .slice A ws.length c] w fun e w' => e = .returned (.int .i64 (codeA ws)) ∧ Still w w' (fun k => k = g ∨ b ≤ k) ∧ (codeA ws = 0 → ∃ v', w'.heap[g]? = some (.cells (rdC p0 p1 v' 1) 76 (0, 0)) ∧ Kd.S k31 31 w' b (fun _ => True) v' (acts ++ [actA ws])) := by
  have hgl : g < w.heap.size := blk_lt hI.blk
  have hne := hI.ne
  have hC := hI.keep w _ (Wrote.of (Below.refl _ _) hI.blk)
  obtain ⟨ad, rfl, hcell⟩ := Kd.at_string hC (0 : Int) (by omega) (by omega)
  have hrd : rdOf ByteArray.empty ws (0 : Int) = ws.getD 0 ByteArray.empty := rfl
  rw [hrd] at hcell
  obtain ⟨x, hx⟩ : ∃ x, ws.getD 0 ByteArray.empty = x := ⟨_, rfl⟩
  rw [hx, show ad.add (Int.toNat 0) = ad by cases ad; simp [Addr.add]] at hcell
  have HI := Aside0.mk hI
  have HX := Aside0.mk hx
  have HS := Aside0.mk hS
  have k3 : w.cell? ⟨g, 3, none⟩ = some (.int .i64 1) := by rw [blk_cell hI.blk]; rfl
  have hp0 : (0 : Int) < (ws.length : Int) := by omega
  have HCL : Aside0 (w.cell? ad = some (.string x)) := ⟨hcell⟩
  clear hC hrd hI hx hS
  have HT0 : Aside0 (∀ w1, w1 = w.alloc (.cells tabCells 68 (0, 0)) → Below w.heap.size w w1 ∧ w1.heap[w.heap.size]? = some (.cells tabCells 68 (0, 0))) := ⟨fun w1 h => by
    rw [h]
    exact ⟨below_alloc (Below.refl _ _) _, blk_new w _⟩⟩
  go_enter Tryz.func35, Tryz.ntmps35
  go_wp2_with (go_at_call 29; refine (shapes_calls _).mono ?_; rintro e w1 ⟨rfl, hw1⟩; have HT := Aside0.mk (HT0.out _ hw1); clear hw1)
  clear HT0 k3 hcell
  go_loopw [37] (fun v37 wr => ∃ i : Nat, v37 = .int .i64 (i : Int) ∧ i ≤ 12 ∧ Aside0 ((Below w.heap.size w wr ∧ wr.heap[w.heap.size]? = some (.cells tabCells 68 (0, 0))) ∧ ∀ j, j < i → nameL.getD j ⟨#[]⟩ ≠ x)) (fun v37 _ => 12 - (intOf v37).toNat)
  case atStart => exact ⟨0, rfl, by omega, ⟨HT.out, fun j h => absurd h (Nat.not_lt_zero _)⟩⟩
  case round =>
    obtain ⟨i, rfl, hi, HR⟩ := hrel
    clear HT
    by_cases hlt : i < 12
    · have b1 : decide ((i : Int) < 12) = true := decide_eq_true (by omega)
      have hi12 : (i : Int) < 12 := by omega
      have hwi : wrap64 ((i : Int) + 1) = (i : Int) + 1 := by unfold wrap64; omega
      have HMS : Aside0 (12 - (intOf (Value.int IntKind.i64 ((i : Int) + 1))).toNat < 12 - (intOf (Value.int IntKind.i64 (i : Int))).toNat) := ⟨by simp only [intOf]; omega⟩
      obtain ⟨t0, t1⟩ := tab_at i hlt
      obtain ⟨n, hn1⟩ : ∃ n, nameL.getD i ⟨#[]⟩ = n := ⟨_, rfl⟩
      rw [hn1] at t0
      have r0 : wr.cell? ⟨w.heap.size, i * 4, none⟩ = some (.string n) := by rw [blk_cell HR.out.1.2]; exact t0
      have r1 : wr.cell? ⟨w.heap.size, i * 4 + 1, none⟩ = some (.int .i64 ((i : Int) + 1)) := by rw [blk_cell HR.out.1.2]; exact t1
      obtain ⟨fr, fnr, t2, hRD⟩ := readings i hlt
      obtain ⟨_, fw, _, t3⟩ := tab_fn i hlt
      have r2 : wr.cell? ⟨w.heap.size, i * 4 + 2, none⟩ = some (.func (.func fr) #[] #[]) := by rw [blk_cell HR.out.1.2]; exact t2
      have r3 : wr.cell? ⟨w.heap.size, i * 4 + 3, none⟩ = some (.func (.func fw) #[] #[]) := by rw [blk_cell HR.out.1.2]; exact t3
      have HRD := Aside0.mk hRD
      have hcw : wr.cell? ad = some (.string x) := pw_cell_below HR.out.1.1 HCL.out
      have HCW : Aside0 (∀ o2, (wr.alloc o2).cell? ad = some (.string x)) := ⟨fun o2 => pw_cell_below ((Below.refl _ _).alloc (Nat.le_refl _) o2) hcw⟩
      clear hRD t0 t1 t2 t3
      obtain ⟨bq, hbq⟩ : ∃ bq, (n.toList == x.toList) = bq := ⟨_, rfl⟩
      have HBQ : Aside0 (bq = true ↔ n = x) := ⟨by
        rw [← hbq, beq_iff_eq, ByteArray.toList_eq, ByteArray.toList_eq]
        exact ⟨fun h => ByteArray.ext (Array.toList_inj.1 h), fun h => by rw [h]⟩⟩
      have HN1 := Aside0.mk hn1
      have HCS : Aside0 (∀ W, Below wr.heap.size wr W → W.cell? ad = some (.string x)) := ⟨fun W hb => pw_cell_below hb hcw⟩
      clear hn1
      go_wp2_with fail
      obtain ⟨S, hSq⟩ : ∃ S, S = wr.heap.size := ⟨_, rfl⟩
      obtain ⟨W1, hW1⟩ : ∃ W1, W1 = wr.alloc (.cells #[.string n, .int .i64 ((i : Int) + 1), .func (.func fr) #[] #[], .func (.func fw) #[] #[]] 68 (0, 0)) := ⟨_, rfl⟩
      have HW1 : Aside0 (Below wr.heap.size wr W1 ∧ W1.heap[S]? = some (.cells #[.string n, .int .i64 ((i : Int) + 1), .func (.func fr) #[] #[], .func (.func fw) #[] #[]] 68 (0, 0))) := ⟨by
        rw [hW1, hSq]
        exact ⟨below_alloc (Below.refl _ _) _, blk_new wr _⟩⟩
      have HSW : Aside0 (S = wr.heap.size) := ⟨hSq⟩
      rw [← hW1, ← hSq]
      clear hW1 hSq r0 r1 r2 r3 hcw HCW
      refine region_facts (ws := []) (G := fun _ w' => Aside0 (Below wr.heap.size wr w' ∧ w'.heap[S]? = some (.cells #[.string n, .int .i64 ((i : Int) + 1), .func (.func fr) #[] #[], .func (.func fw) #[] #[]] 68 (0, 0)))) (φs := [Fact.eq (.pointer (some ⟨S, 0, none⟩)), Fact.eq (.string n), Fact.eq (.slice (some ad) ws.length c), Fact.eq (.pointer (some ad)), Fact.eq (.string x), Fact.eq (.bool bq)]) (n := 6) (m := 69) (by kernel_rfl) (by kernel_rfl) rfl rfl (by kernel_rfl) (fun _ _ _ h hb => ⟨below_then h.out.1 h.out.1.size hb, (hb.block _ (blk_lt h.out.2)).trans h.out.2⟩) (⟨below_then HW1.out.1 HW1.out.1.size (below_drew (Below.refl _ _)), HW1.out.2⟩) ⟨?oq0, ?oq1, ?oq2, ?oq3, ?oq4, ?oq5, trivial⟩ ?finq
      case oq0 =>
        refine ask_val [.fix 6 _] rfl 41 rfl (.inl rfl) ⟨⟨by kernel_rfl, by conv => lhs; whnf⟩, trivial⟩ ?_
        dsimp only [Has, Fact.eq]
        intro e ρ w' hc hf hg hG h6
        go_simp
        all_goals (first | done | rfl)
      case oq1 =>
        refine ask_step [.op 41 0 (Fact.eq _)] rfl 42 rfl (.inl rfl) ⟨⟨by kernel_rfl, rfl⟩, trivial⟩ 0 0 (by kernel_rfl) ?_
        dsimp only [Has, Fact.eq]
        intro e ρ w' hp hq hc hf hg hG h41
        have c0 : w'.cell? ⟨S, 0, none⟩ = some (.string n) := by rw [blk_cell hG.out.2]; rfl
        refine ⟨_, w', ?_, rfl, Below.refl _ _⟩
        go_simp
        all_goals (first | done | rfl)
      case oq2 =>
        refine ask_val [.fix 1 _] rfl 43 rfl (.inl rfl) ⟨⟨by kernel_rfl, by conv => lhs; whnf⟩, trivial⟩ ?_
        dsimp only [Has, Fact.eq]
        intro e ρ w' hc hf hg hG h1
        go_simp
        all_goals (with_reducible rfl)
      case oq3 =>
        refine ask_val [.op 43 2 (Fact.eq _)] rfl 44 rfl (.inl rfl) ⟨⟨by kernel_rfl, rfl⟩, trivial⟩ ?_
        dsimp only [Has, Fact.eq]
        intro e ρ w' hc hf hg hG h43
        go_simp
      case oq4 =>
        refine ask_step [.op 44 3 (Fact.eq _)] rfl 45 rfl (.inl rfl) ⟨⟨by kernel_rfl, rfl⟩, trivial⟩ 0 0 (by kernel_rfl) ?_
        dsimp only [Has, Fact.eq]
        intro e ρ w' hp hq hc hf hg hG h44
        have c0 := HCS.out w' hG.out.1
        refine ⟨_, w', ?_, rfl, Below.refl _ _⟩
        go_simp
        all_goals (first | done | rfl)
      case oq5 =>
        refine ask_val [.op 42 1 (Fact.eq _), .op 45 4 (Fact.eq _)] rfl 46 rfl (.inl rfl) ⟨⟨by kernel_rfl, rfl⟩, ⟨by kernel_rfl, rfl⟩, trivial⟩ ?_
        dsimp only [Has, Fact.eq]
        intro e ρ w' hc hf hg hG h42 h45
        go_simp
      case finq =>
        intro w' hG
        refine fin_eq (fin_eq (fin_eq (fin_eq (fin_eq (fin_eq (fin_nil (a' := ?_) ?_ ?_))))))
        rotate_left
        · simp only [Act.put, List.setIfInBounds_toArray, List.set_cons_zero, List.set_cons_succ]
          rfl
        have HG := Aside0.mk hG.out
        clear hG hbq
        cases bq with
        | false =>
          go_wp2_with fail
          go_roundw
          case rel => exact ⟨i + 1, rfl, hlt, ⟨⟨below_then HR.out.1.1 HR.out.1.1.size HG.out.1, (HG.out.1.block _ (blk_lt HR.out.1.2)).trans HR.out.1.2⟩, fun j hj => by
            by_cases h : j < i
            · exact HR.out.2 j h
            · obtain rfl : j = i := by omega
              rw [HN1.out]
              exact fun h => by have := HBQ.out.2 h; cases this⟩⟩
          case measure => exact HMS.out
        | true =>
          obtain rfl := HBQ.out.1 rfl
          have HKD : Aside0 (kindR n = i + 1) := ⟨kindR_found n i hlt HR.out.2 HN1.out⟩
          have s1 : w'.cell? ⟨S, 1, none⟩ = some (.int .i64 ((i : Int) + 1)) := by rw [blk_cell HG.out.2]; rfl
          clear HN1 HBQ
          go_wp2_with fail
          obtain ⟨g7, hg7⟩ : ∃ g7, g7 = w'.heap.size := ⟨_, rfl⟩
          obtain ⟨W7, hW7⟩ : ∃ W7, W7 = w'.alloc (.cells (cs0 (((i + 1 : Nat)) : Int)) 31 (0, 0)) := ⟨_, rfl⟩
          have HBw : Aside0 (Below w.heap.size w w') := ⟨below_then HR.out.1.1 HR.out.1.1.size HG.out.1⟩
          have HW7 : Aside0 (Below w.heap.size w W7 ∧ W7.heap[S]? = some (.cells #[.string n, .int .i64 ((i : Int) + 1), .func (.func fr) #[] #[], .func (.func fw) #[] #[]] 68 (0, 0)) ∧ W7.heap[g7]? = some (.cells (cs0 (((i + 1 : Nat)) : Int)) 31 (0, 0)) ∧ w.heap.size ≤ g7 ∧ g7 < W7.heap.size) := ⟨by
            rw [hW7, hg7]
            have ha : Below w'.heap.size w' (w'.alloc (.cells (cs0 (((i + 1 : Nat)) : Int)) 31 (0, 0))) := below_alloc (Below.refl _ _) _
            exact ⟨below_then HBw.out HBw.out.size ha, (ha.block _ (blk_lt HG.out.2)).trans HG.out.2, blk_new w' _, HBw.out.size, by simp⟩⟩
          have HRDS : Aside0 (∀ W0, Below W7.heap.size W7 W0 → Reads W0 g7 31 (cs0 (((i + 1 : Nat)) : Int)) (tailA (some ad) c) ws.tail) := ⟨fun W0 hb => by
            have hw0 : ∀ W o, Wrote W0 g7 o W → Wrote w g (.cells (rdC p0 p1 v 1) 76 (0, 0)) W := fun W o hw => by
              refine Wrote.of (below_then HW7.out.1 HW7.out.1.size hb |>.trans (hw.below HW7.out.2.2.2.1 ?_)) HI.out.blk
              have := HW7.out.1.size
              have := hb.size
              omega
            exact ⟨(hb.block _ HW7.out.2.2.2.2).trans HW7.out.2.2.1, fun W o hw => HI.out.tail hc W _ (hw0 W o hw), fun W o hw => HI.out.env W _ (hw0 W o hw), fun s hs => HI.out.len s (List.mem_of_mem_tail hs)⟩⟩
          obtain ⟨kc, hkc⟩ : ∃ kc, kc = codeR (i + 1) ws.tail := ⟨_, rfl⟩
          have HKC : Aside0 (kc = codeR (i + 1) ws.tail) := ⟨hkc⟩
          have HDO : Aside0 (∀ W0, Below W7.heap.size W7 W0 → Calls Tryz.prog fr #[.pointer (some ⟨g7, 0, none⟩), .slice (tailA (some ad) c) (ws.length - 1) (c - 1)] W0 fun e w' => e = .returned (.int .i64 kc) ∧ ∃ cs', Wrote W7 g7 (.cells cs' 31 (0, 0)) w' ∧ Alike (cs0 (((i + 1 : Nat)) : Int)) cs' ∧ (kc = 0 → ∃ u, cs' = actC (actR (i + 1) ws.tail) u ∧ Kd.R Kd.string 9 w' W7.heap.size (fun _ => True) u (actR (i + 1) ws.tail).f3)) := ⟨fun W0 hb => by
            have hl : ws.tail.length = ws.length - 1 := List.length_tail
            have := HRD.out.does (tailA (some ad) c) (c - 1) W0 g7 ws.tail (HRDS.out W0 hb) (by omega) (by omega)
            rw [hl] at this
            rw [hkc]
            refine this.mono ?_
            rintro e w2 ⟨he, cs', h1, h2, h3⟩
            refine ⟨he, cs', (Wrote.of hb HW7.out.2.2.1).again h1, h2, fun h0 => ?_⟩
            obtain ⟨u, e1, e2⟩ := h3 h0
            exact ⟨u, e1, Kd.R_lower e2 hb.size⟩⟩
          have e31 : (w'.alloc (.cells #[.int .i64 ((i : Int) + 1), .string ⟨#[]⟩, .string ⟨#[]⟩, .slice none 0 0, .string ⟨#[]⟩, .int .i64 0, .int .i64 0] 31)) = W7 := hW7.symm
          rw [e31, ← hg7]
          clear hW7 hg7 e31 s1 hkc HRDS
          refine region_facts (ws := [4]) (G := fun e w' => Aside0 ((e = 0 → Below W7.heap.size W7 w') ∧ (e = 1 → ∃ cs', Wrote W7 g7 (.cells cs' 31 (0, 0)) w' ∧ Alike (cs0 (((i + 1 : Nat)) : Int)) cs' ∧ (kc = 0 → ∃ u, cs' = actC (actR (i + 1) ws.tail) u ∧ Kd.R Kd.string 9 w' W7.heap.size (fun _ => True) u (actR (i + 1) ws.tail).f3)))) (φs := [Fact.eq (.pointer (some ⟨S, 2, none⟩)), Fact.eq (.func (.func fr) #[] #[]), Fact.eq (.slice (some ad) ws.length c), Fact.eq (.slice (tailA (some ad) c) (ws.length - 1) (c - 1)), Fact.eq (.int .i64 kc), Fact.eq (.int .i64 kc)]) (n := 6) (m := 69) (by kernel_rfl) (by kernel_rfl) rfl rfl (by kernel_rfl) (fun _ _ _ h hb => ⟨fun he => below_then (h.out.1 he) (h.out.1 he).size hb, fun he => by obtain ⟨cs', h1, h2, h3⟩ := h.out.2 he; exact ⟨cs', h1.then hb, h2, fun h0 => by obtain ⟨u, e1, e2⟩ := h3 h0; exact ⟨u, e1, Kd.R_below e2 hb⟩⟩⟩) (⟨fun _ => below_drew (Below.refl _ _), fun he => by cases he⟩) ⟨?oz0, ?oz1, ?oz2, ?oz3, ?oz4, ?oz5, trivial⟩ ?finz
          case oz0 =>
            refine ask_val [.fix 6 _] rfl 50 rfl (.inl rfl) ⟨⟨by kernel_rfl, by conv => lhs; whnf⟩, trivial⟩ ?_
            dsimp only [Has, Fact.eq]
            intro e ρ w' hc hf hg hG h5
            go_simp
            all_goals (first | done | rfl)
          case oz1 =>
            refine ask_step [.op 50 0 (Fact.eq _)] rfl 51 rfl (.inl rfl) ⟨⟨by kernel_rfl, rfl⟩, trivial⟩ 0 0 (by kernel_rfl) ?_
            dsimp only [Has, Fact.eq]
            intro e ρ w' hp hq hc hf hg hG h32
            obtain rfl : e = 0 := by omega
            have c0 : w'.cell? ⟨S, 2, none⟩ = some (.func (.func fr) #[] #[]) := by rw [blk_cell (((hG.out.1 rfl).block _ (blk_lt HW7.out.2.1)).trans HW7.out.2.1)]; rfl
            refine ⟨_, w', ?_, rfl, Below.refl _ _⟩
            go_simp
            all_goals (first | done | rfl)
          case oz2 =>
            refine ask_val [.fix 1 _] rfl 52 rfl (.inl rfl) ⟨⟨by kernel_rfl, by conv => lhs; whnf⟩, trivial⟩ ?_
            dsimp only [Has, Fact.eq]
            intro e ρ w' hc hf hg hG h6
            go_simp
            all_goals (with_reducible rfl)
          case oz3 =>
            refine ask_val [.op 52 2 (Fact.eq _)] rfl 53 rfl (.inl rfl) ⟨⟨by kernel_rfl, rfl⟩, trivial⟩ ?_
            dsimp only [Has, Fact.eq]
            intro e ρ w' hc hf hg hG h34
            go_simp
            rw [if_pos (show (1 : Int) ≤ (ws.length : Int) by omega)]
            rfl
          case oz4 =>
            refine ask_wdyn [.op 51 1 (Fact.eq _), .fix 7 _, .op 53 3 (Fact.eq _)] rfl 54 rfl (.inl rfl) ⟨⟨by kernel_rfl, rfl⟩, ⟨by kernel_rfl, by conv => lhs; whnf⟩, ⟨by kernel_rfl, rfl⟩, trivial⟩ 0 0 (by kernel_rfl) 51 rfl ?_
            dsimp only [Has, Fact.eq]
            intro e ρ w' hp hq hc hf hg hG h33 h7 h35
            obtain rfl : e = 0 := by omega
            have h1 := hG.out.1 rfl
            refine ⟨fr, fnr, #[.pointer (some ⟨g7, 0, none⟩), .slice (tailA (some ad) c) (ws.length - 1) (c - 1)], h33, HRD.out.here, HRD.out.name, HRD.out.body, by simp only [List.map_toArray, List.map_cons, List.map_nil, h7, h35], ?_⟩
            refine (HDO.out w' h1).mono ?_
            rintro en w2 ⟨rfl, hp⟩
            exact ⟨_, rfl, rfl, ⟨fun he => (by cases he), fun _ => hp⟩, ⟨fun _ h => h, fun _ h => h, fun _ h => h, fun _ h => h, fun _ h => h, fun _ h => h, trivial⟩⟩
          case oz5 =>
            refine ask_val [.op 54 4 (Fact.eq _)] rfl 8 rfl (.inl rfl) ⟨⟨by kernel_rfl, rfl⟩, trivial⟩ ?_
            dsimp only [Has, Fact.eq]
            intro e ρ w' hc hf hg hG h36
            go_simp
            all_goals (with_reducible rfl)
          case finz =>
            intro w8 hG
            refine fin_eq (fin_eq (fin_eq (fin_eq (fin_eq (fin_eq (fin_nil (a' := ?_) ?_ ?_))))))
            rotate_left
            · simp only [Act.put, List.setIfInBounds_toArray, List.set_cons_zero, List.set_cons_succ]
              rfl
            obtain ⟨cs', hw8, hak, hok8⟩ := hG.out.2 rfl
            obtain ⟨i0, n0, s1, s2, A3, l3, c3, s4, i5, n5, i6, n6, rfl⟩ := alike_act hak
            obtain ⟨N, hN⟩ : ∃ N, N = W7.heap.size := ⟨_, rfl⟩
            have H8 : Aside0 (Below w.heap.size w w8 ∧ w8.heap[g7]? = some (.cells #[.int i0 n0, .string s1, .string s2, .slice A3 l3 c3, .string s4, .int i5 n5, .int i6 n6] 31 (0, 0)) ∧ w.heap.size ≤ N ∧ N ≤ w8.heap.size ∧ (kc = 0 → ∃ u, (#[.int i0 n0, .string s1, .string s2, .slice A3 l3 c3, .string s4, .int i5 n5, .int i6 n6] : Array Value) = actC (actR (i + 1) ws.tail) u ∧ Kd.R Kd.string 9 w8 N (fun _ => True) u (actR (i + 1) ws.tail).f3)) := ⟨by
              have hs7 := HW7.out.1.size
              rw [hN]
              exact ⟨HW7.out.1.trans (hw8.below HW7.out.2.2.2.1 hs7), hw8.at_, hs7, hw8.size, hok8⟩⟩
            have HG8 : Aside0 (w8.heap[g]? = some (.cells (rdC p0 p1 v 1) 76 (0, 0))) := ⟨(H8.out.1.block _ hgl).trans HI.out.blk⟩
            have HS8 : Aside0 (Kd.S k31 31 w8 b (fun k => k < N) v acts) := ⟨Kd.S_below (Kd.S_mono (Kd.S_bound HS.out) (fun k hk => Nat.lt_of_lt_of_le hk.2.2.1 H8.out.2.2.1)) H8.out.1⟩
            clear hG hw8 hak hok8 hN HW7 HDO HBw HG
            go_wp2_with fail
            refine region_facts (ws := [8, 12]) (G := fun e w' => Aside0 ((e = 0 → Below w8.heap.size w8 w') ∧ (e = 1 → Still w8 w' (fun k => b ≤ k)) ∧ (e = 2 → Still w8 w' (fun k => k = g ∨ b ≤ k) ∧ (∃ v', w'.heap[g]? = some (.cells (rdC p0 p1 v' 1) 76 (0, 0)) ∧ (kc = 0 → Kd.S k31 31 w' b (fun _ => True) v' (acts ++ [actR (i + 1) ws.tail])))))) (φs := [Fact.eq (.pointer (some ⟨g, 0, none⟩)), Fact.eq (.pointer (some ⟨g, 0, none⟩)), Fact.eq (.pointer (some ⟨g, 0, none⟩)), Fact.eq (.pointer (some ⟨g, 0, none⟩)), Fact.eq (.pointer (some ⟨g, 2, none⟩)), Fact.eq v, Fact.eq (.agg #[.int i0 n0, .string s1, .string s2, .slice A3 l3 c3, .string s4, .int i5 n5, .int i6 n6]), (⟨fun e x w' => e = 0 → ∃ r, x = .slice (some ⟨r, 0, none⟩) 1 1 ∧ ∀ j u, ([.int i0 n0, .string s1, .string s2, .slice A3 l3 c3, .string s4, .int i5 n5, .int i6 n6] : List Value)[j]? = some u → w'.cell? ((⟨r, 0, none⟩ : Addr).add j) = some u, fun _ _ _ _ h hb he => by obtain ⟨r, h1, h2⟩ := h he; exact ⟨r, h1, fun j u hu => pw_cell_below hb (h2 j u hu)⟩⟩ : Fact), (⟨fun e x w' => 1 ≤ e ∧ (∃ A1 c1, x = .slice A1 (acts.length + 1) c1) ∧ (kc = 0 → Kd.S k31 31 w' b (fun k => b ≤ k) x (acts ++ [actR (i + 1) ws.tail])), fun _ _ _ _ h hb => ⟨h.1, h.2.1, fun h0 => Kd.S_below (h.2.2 h0) hb⟩⟩ : Fact), Fact.eq (.pointer (some ⟨g, 0, none⟩)), Fact.eq (.pointer (some ⟨g, 0, none⟩)), Fact.eq (.pointer (some ⟨g, 2, none⟩)), Fact.eq undef]) (n := 13) (m := 69) (by kernel_rfl) (by kernel_rfl) rfl rfl (by kernel_rfl) (fun _ _ _ h hb => ⟨fun he => below_then (h.out.1 he) (h.out.1 he).size hb, fun he => (h.out.2.1 he).then hb, fun he => ⟨(h.out.2.2 he).1.then hb, by obtain ⟨v', h1, h2⟩ := (h.out.2.2 he).2; exact ⟨v', (hb.block _ (blk_lt h1)).trans h1, fun h0 => Kd.S_below (h2 h0) hb⟩⟩⟩) (⟨fun _ => below_drew (Below.refl _ _), fun he => (by cases he), fun he => (by cases he)⟩) ⟨?ot0, ?ot1, ?ot2, ?ot3, ?ot4, ?ot5, ?ot6, ?ot7, ?ot8, ?ot9, ?ot10, ?ot11, ?ot12, trivial⟩ ?fint
            case ot0 =>
              refine ask_val [.fix 0 _] rfl 55 rfl (.inl rfl) ⟨⟨by kernel_rfl, by conv => lhs; whnf⟩, trivial⟩ ?_
              dsimp only [Has, Fact.eq]
              intro e ρ w' hc hf hg hG h0
              go_simp
              all_goals (with_reducible rfl)
            case ot1 =>
              refine ask_val [.fix 0 _] rfl 56 rfl (.inl rfl) ⟨⟨by kernel_rfl, by conv => lhs; whnf⟩, trivial⟩ ?_
              dsimp only [Has, Fact.eq]
              intro e ρ w' hc hf hg hG h0
              go_simp
              all_goals (with_reducible rfl)
            case ot2 =>
              refine ask_val [.op 56 1 (Fact.eq _)] rfl 57 rfl (.inl rfl) ⟨⟨by kernel_rfl, rfl⟩, trivial⟩ ?_
              dsimp only [Has, Fact.eq]
              intro e ρ w' hc hf hg hG h0
              go_simp
              all_goals (with_reducible rfl)
            case ot3 =>
              refine ask_val [.op 57 2 (Fact.eq _)] rfl 58 rfl (.inl rfl) ⟨⟨by kernel_rfl, rfl⟩, trivial⟩ ?_
              dsimp only [Has, Fact.eq]
              intro e ρ w' hc hf hg hG h0
              go_simp
              all_goals (first | done | rfl)
            case ot4 =>
              refine ask_val [.op 58 3 (Fact.eq _)] rfl 59 rfl (.inl rfl) ⟨⟨by kernel_rfl, rfl⟩, trivial⟩ ?_
              dsimp only [Has, Fact.eq]
              intro e ρ w' hc hf hg hG h0
              go_simp
              all_goals (first | done | rfl)
            case ot5 =>
              refine ask_step [.op 59 4 (Fact.eq _)] rfl 60 rfl (.inl rfl) ⟨⟨by kernel_rfl, rfl⟩, trivial⟩ 0 0 (by kernel_rfl) ?_
              dsimp only [Has, Fact.eq]
              intro e ρ w' hp hq hc hf hg hG h59
              obtain rfl : e = 0 := by omega
              have c0 : w'.cell? ⟨g, 2, none⟩ = some v := by rw [blk_cell (((hG.out.1 rfl).block _ (blk_lt HG8.out)).trans HG8.out)]; rfl
              refine ⟨_, w', ?_, rfl, Below.refl _ _⟩
              go_simp
              all_goals (first | done | rfl)
            case ot6 =>
              refine ask_step [.fix 7 _] rfl 61 rfl (.inl rfl) ⟨⟨by kernel_rfl, by conv => lhs; whnf⟩, trivial⟩ 0 0 (by kernel_rfl) ?_
              dsimp only [Has, Fact.eq]
              intro e ρ w' hp hq hc hf hg hG h7
              obtain rfl : e = 0 := by omega
              have hbk := ((hG.out.1 rfl).block _ (blk_lt H8.out.2.1)).trans H8.out.2.1
              have c0 : w'.cell? ⟨g7, 0, none⟩ = some (.int i0 n0) := by rw [blk_cell hbk]; rfl
              have c1 : w'.cell? ⟨g7, 1, none⟩ = some (.string s1) := by rw [blk_cell hbk]; rfl
              have c2 : w'.cell? ⟨g7, 2, none⟩ = some (.string s2) := by rw [blk_cell hbk]; rfl
              have c4 : w'.cell? ⟨g7, 3, none⟩ = some (.slice A3 l3 c3) := by rw [blk_cell hbk]; rfl
              have c5 : w'.cell? ⟨g7, 4, none⟩ = some (.string s4) := by rw [blk_cell hbk]; rfl
              have c6 : w'.cell? ⟨g7, 5, none⟩ = some (.int i5 n5) := by rw [blk_cell hbk]; rfl
              have c7 : w'.cell? ⟨g7, 6, none⟩ = some (.int i6 n6) := by rw [blk_cell hbk]; rfl
              refine ⟨_, w', ?_, rfl, Below.refl _ _⟩
              go_simp
              all_goals (first | done | rfl)
            case ot7 =>
              refine ask_step [.op 61 6 (Fact.eq _)] rfl 62 rfl (.inl rfl) ⟨⟨by kernel_rfl, rfl⟩, trivial⟩ 0 0 (by kernel_rfl) ?_
              dsimp only [Has, Fact.eq]
              intro e ρ w' hp hq hc hf hg hG h61
              refine ⟨.slice (some ⟨w'.heap.size, 0, none⟩) 1 1, w'.alloc (.cells #[.int i0 n0, .string s1, .string s2, .slice A3 l3 c3, .string s4, .int i5 n5, .int i6 n6] 31), ?_, fun _ => ⟨_, rfl, fun j u hu => by rw [add_plain, blk_cell (blk_new w' _) j]; simpa using hu⟩, below_alloc (Below.refl _ _) _⟩
              go_simp
              all_goals (first | done | rfl)
            case ot8 =>
              refine ask_wval [.op 60 5 (Fact.eq _), .op 62 7 _] rfl 63 rfl (.inl rfl) ⟨⟨by kernel_rfl, rfl⟩, ⟨by kernel_rfl, rfl⟩, trivial⟩ 0 0 (by kernel_rfl) ?_
              dsimp only [Has, Fact.eq]
              intro e ρ w' hp hq hc hf hg hG h60 h62
              obtain rfl : e = 0 := by omega
              obtain ⟨r8, e8, hc8⟩ := h62 rfl
              have hb0 := hG.out.1 rfl
              obtain ⟨v1, w1, hrun, hg3, hown, ⟨A1, c1, hv1⟩, hM⟩ := run_append_row w' b v acts ([.int i0 n0, .string s1, .string s2, .slice A3 l3 c3, .string s4, .int i5 n5, .int i6 n6] : List Value) ⟨r8, 0, none⟩ 1 22 (fun k => k < N) (fun k => N ≤ k) (fun k hk h2 => by omega) (Kd.S_below HS8.out hb0) hc8 rfl (by intro u hu; simp only [List.mem_cons, List.not_mem_nil, or_false] at hu; rcases hu with rfl | rfl | rfl | rfl | rfl | rfl | rfl <;> rfl) (by have := hb0.size; have := H8.out.1.size; omega) hal
              refine ⟨v1, w1, ?_, ⟨Nat.le_refl 1, ⟨A1, c1, hv1⟩, fun h0 => ?_⟩, ⟨fun he => (by cases he), fun _ => (Still.of (S := fun k => b ≤ k) hb0).trans (Still.grown hg3 (S := fun k => b ≤ k) (fun k hk => hown k hk)) (fun _ _ h => h), fun he => (by cases he)⟩, ⟨fun _ h => h, fun _ h => h, fun _ h => h, fun _ h => h, fun _ h => h, fun _ h => h, fun _ h => h, fun _ _ he => absurd he (by omega), fun _ h => absurd h.1 (by decide), fun _ h => h, fun _ h => h, fun _ h => h, fun _ h => h, trivial⟩⟩
              · unfold execOp
                simp only [resolve, invoke, builtin, Sem.run_bind, Sem.run_pure, Result.andThen_ok, List.map_toArray, List.map_cons, List.map_nil, e8, h60, hrun]
              · obtain ⟨u, e1, hR⟩ := H8.out.2.2.2.2 h0
                have hRn : Kd.R Kd.string 9 w' b (fun k => N ≤ k) u (actR (i + 1) ws.tail).f3 := Kd.R_lower (Kd.R_below (Kd.R_mono (Kd.R_bound hR) (fun k hk => hk.2.1)) hb0) (Nat.le_trans hbw H8.out.2.2.1)
                have hm := k31_mkM w' b (fun k => N ≤ k) (actR (i + 1) ws.tail) hRn
                have e2 : ([.int i0 n0, .string s1, .string s2, .slice A3 l3 c3, .string s4, .int i5 n5, .int i6 n6] : List Value) = [.int .i64 (actR (i + 1) ws.tail).f0, .string (actR (i + 1) ws.tail).f1, .string (actR (i + 1) ws.tail).f2, u, .string (actR (i + 1) ws.tail).f4, .int .i64 (actR (i + 1) ws.tail).f5, .int .i64 (actR (i + 1) ws.tail).f6] := congrArg Array.toList e1
                rw [← e2] at hm
                exact Kd.S_mono (Kd.S_bound (hM _ hm)) (fun k hk => hk.2.1)
            case ot9 =>
              refine ask_val [.op 55 0 (Fact.eq _)] rfl 64 rfl (.inl rfl) ⟨⟨by kernel_rfl, rfl⟩, trivial⟩ ?_
              dsimp only [Has, Fact.eq]
              intro e ρ w' hc hf hg hG h0
              go_simp
              all_goals (with_reducible rfl)
            case ot10 =>
              refine ask_val [.op 64 9 (Fact.eq _)] rfl 65 rfl (.inl rfl) ⟨⟨by kernel_rfl, rfl⟩, trivial⟩ ?_
              dsimp only [Has, Fact.eq]
              intro e ρ w' hc hf hg hG h0
              go_simp
              all_goals (first | done | rfl)
            case ot11 =>
              refine ask_val [.op 65 10 (Fact.eq _)] rfl 66 rfl (.inl rfl) ⟨⟨by kernel_rfl, rfl⟩, trivial⟩ ?_
              dsimp only [Has, Fact.eq]
              intro e ρ w' hc hf hg hG h0
              go_simp
              all_goals (first | done | rfl)
            case ot12 =>
              refine ask_store [.op 66 11 (Fact.eq _), .op 63 8 _] rfl rfl (.inl rfl) ⟨⟨by kernel_rfl, rfl⟩, ⟨by kernel_rfl, rfl⟩, trivial⟩ 1 1 (by kernel_rfl) ?_
              dsimp only [Has, Fact.eq]
              intro e ρ w' hp hq hc hf hg hG h66 h63
              obtain rfl : e = 1 := by omega
              have hs1 := hG.out.2.1 rfl
              have hbk := hs1.blk HG8.out (fun h => by omega)
              obtain ⟨_, ⟨A9, c9, e9⟩, h9⟩ := h63
              have c0 : w'.cell? ⟨g, 2, none⟩ = some v := by rw [blk_cell hbk]; rfl
              have f0 : w'.frozen? ⟨g, 2, none⟩ = false := blk_frozen hbk _
              have hS9 : ∀ x, Kd.S k31 31 w' b (fun k => b ≤ k) x (acts ++ [actR (i + 1) ws.tail]) → Kd.S k31 31 (w'.setCell ⟨g, 2, none⟩ (ρ (.tmp 63))) b (fun k => b ≤ k) x (acts ++ [actR (i + 1) ws.tail]) := fun x h => Kd.S_step h (fun k hk _ => Below.heap_setCell w' _ _ k (show k ≠ g by omega))
              refine ⟨w'.setCell ⟨g, 2, none⟩ (ρ (.tmp 63)), ?_, rfl, ⟨fun he => (by cases he), fun he => (by cases he), fun _ => ⟨(hs1.mono (fun _ h => Or.inr h)).trans (Still.set (S := fun k => k = g ∨ b ≤ k) _ _ _ (Or.inl rfl)) (fun _ _ h => h), ρ (.tmp 63), blk_set hbk 2 _, fun h0 => Kd.S_mono (hS9 _ (h9 h0)) (fun _ _ => trivial)⟩⟩, ⟨fun _ h => h, fun _ h => h, fun _ h => h, fun _ h => h, fun _ h => h, fun _ h => h, fun _ h => h, fun _ _ he => absurd he (by omega), fun _ h => ⟨by decide, h.2.1, fun h0 => hS9 _ (h.2.2 h0)⟩, fun _ h => h, fun _ h => h, fun _ h => h, fun _ h => h, trivial⟩⟩
              rw [e9]
              go_simp
              all_goals (first | done | rfl)
            case fint =>
              intro w9 hG
              refine fin_eq (fin_eq (fin_eq (fin_eq (fin_eq (fin_eq (fin_eq (fin_fact (fun v57 hv57 => fin_fact (fun v58 hv58 => fin_eq (fin_eq (fin_eq (fin_eq (fin_nil (a' := ?_) ?_ ?_)))))))))))))
              rotate_left
              · simp only [Act.put, List.setIfInBounds_toArray, List.set_cons_zero, List.set_cons_succ]
                rfl
              have H9 := Aside0.mk (hG.out.2.2 rfl)
              clear hG
              go_wp2_with fail
              go_ret
              have hca : codeA ws = kc := by unfold codeA; rw [HX.out, HKD.out, if_neg (Nat.succ_ne_zero _), HKC.out]
              have haa : actA ws = actR (i + 1) ws.tail := by unfold actA; rw [HX.out, HKD.out]
              rw [hca, haa]
              obtain ⟨hs9, v9, h91, h92⟩ := H9.out
              exact ⟨rfl, (Still.of H8.out.1).trans hs9 (fun _ _ h => h), fun h0 => ⟨v9, h91, h92 h0⟩⟩
    · obtain rfl : i = 12 := by omega
      have HKD : Aside0 (codeA ws = 242) := ⟨by unfold codeA; rw [if_pos]; rw [HX.out]; exact kindR_none x HR.out.2⟩
      go_wp2_with fail
      go_ret
      exact ⟨by rw [HKD.out]; rfl, Still.of HR.out.1.1, fun h => by rw [HKD.out] at h; cases h⟩
end Go.Proofs.YtkfjjmmpbfjhaaaGreatDoor.Tells
