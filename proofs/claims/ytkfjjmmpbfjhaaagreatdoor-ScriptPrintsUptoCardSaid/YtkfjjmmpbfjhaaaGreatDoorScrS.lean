/- The law of ScriptActs, walked. Conditions: those that each theorem states. -/
import Derived.Test.YtkfjjmmpbfjhaaaGreatDoorScrR
namespace Go.Proofs.YtkfjjmmpbfjhaaaGreatDoor.Tells
open Go.RowKit Go.Proofs.YtkfjjmmpbfjhaaaGreatDoor.Facts Go.Proofs.YtkfjjmmpbfjhaaaGreatDoor.PScriptActs Go.Proofs.YtkfjjmmpbfjhaaaGreatDoorW.PrintWords Go.Proofs.YtkfjjmmpbfjhaaaGreatDoorW.PrintLast Go.Proofs.YtkfjjmmpbfjhaaaGreatDoorW.PrintMore
attribute [local go_sem] max2_int min2_int max_two min_two max_three min_three max_four min_four
set_option linter.unusedVariables false
set_option linter.unusedSimpArgs false
theorem raw_first {W : World} {base F n cF sz e : Nat} {f : List Value} {fs : List (List Value)} (h : (Kd.raw sz).R e W base (fun _ => True) (.slice (some ⟨F, 0, none⟩) n cF) (f :: fs)) : ∀ j x, f[j]? = some x → W.cell? ⟨F, j, none⟩ = some x := by
  intro j x hj
  obtain ⟨h0, inner, hown, hr⟩ := h
  have h1 := hr.2 0 f rfl
  have hf : f = inner.take sz := by
    have := h1.1
    rw [show 0 * (Kd.raw sz).sz = 0 from Nat.zero_mul _, List.drop_zero] at this
    exact this.symm
  have hx : inner[j]? = some x := by
    rw [hf] at hj
    have hjl := (List.getElem?_eq_some_iff.1 hj).1
    rw [List.length_take] at hjl
    rw [List.getElem?_take_of_lt (by omega)] at hj
    exact hj
  have := hown.cells (g := F) rfl j x hx
  rw [add_plain] at this
  exact this
theorem num_calls12 (n : Int) (w : World) : Calls Tryz.prog 12 #[.int .i64 n] w fun e w' => e = .returned (.int .i64 n) ∧ Below w.heap.size w w' := by
  refine (kilnlaw24_num.calls n n w rfl).mono ?_
  rintro e w' ⟨rfl, h⟩
  exact ⟨rfl, h.below⟩
/-- an act with its names the other way round -/
def turnA (a : S31) : S31 := { a with f3 := a.f3.reverse }
theorem turn_ok (a : S31) (h : Aok a) : Aok (turnA a) :=
  ⟨h.kind, h.name, h.other, fun s hs => h.names s (List.mem_reverse.1 hs), by show a.f3.reverse.length ≤ _; rw [List.length_reverse]; exact h.count, h.text, h.number, h.fuel, by show ((a.f3.reverse).map (·.size)).sum ≤ _; rw [List.map_reverse, List.sum_reverse]; exact h.sum⟩
/-- the names half turned: j of them from the end, the rest as they were, marks behind -/
def mixL (l : List ByteArray) (j : Nat) : List ByteArray := l.reverse.take j ++ (l.drop j ++ List.replicate 8 markB)
theorem mix_0 (l : List ByteArray) : mixL l 0 = twinL l := by unfold mixL twinL; simp
theorem mix_all (l : List ByteArray) : mixL l l.length = twinL l.reverse := by
  unfold mixL twinL
  rw [List.take_of_length_le (by rw [List.length_reverse]; exact Nat.le_refl _), List.drop_of_length_le (Nat.le_refl _), List.nil_append]
theorem mix_next (l : List ByteArray) (j : Nat) (h : j < l.length) : (mixL l j).set j (rdOf ByteArray.empty l.reverse (j : Int)) = mixL l (j + 1) := by
  have hr : j < l.reverse.length := by rw [List.length_reverse]; exact h
  have e : rdOf ByteArray.empty l.reverse (j : Int) = l.reverse[j] := by unfold rdOf; rw [Int.toNat_natCast, List.getD_eq_getElem?_getD, List.getElem?_eq_getElem hr]; rfl
  have ht : (l.reverse.take j).length = j := by rw [List.length_take]; omega
  rw [e]
  unfold mixL
  rw [List.set_append_right _ _ (by omega), ht, Nat.sub_self, List.drop_eq_getElem_cons h, List.take_add_one, List.getElem?_eq_getElem hr]
  simp only [List.cons_append, List.set_cons_zero, Option.toList_some, List.append_assoc, List.nil_append]
theorem run_append_str1 (W : World) (base : Nat) (v : Value) (xs : List ByteArray) (x : ByteArray) (ad : Addr) (c ty : Nat) (HO : Kd.R Kd.string 9 W base (fun _ => True) v xs) (hcell : W.cell? ad = some (.string x)) (hbase : base ≤ W.heap.size) (hl : (xs.length + 1) * 16 ≤ 140737488355328) : ∃ v1 w1, (Builtin.append_ #[29, 29] ty #[v, .slice (some ad) 1 c]).run Tryz.prog W = .ok v1 w1 ∧ Kd.R Kd.string 9 w1 base (fun _ => True) v1 (xs ++ [x]) ∧ W.grownBy w1 v.ownBlock := by
  obtain ⟨i0, hi, hzz⟩ := Option.map_eq_some_iff.1 info9
  simp only [Prod.mk.injEq] at hzz
  obtain ⟨hz0, hz1, hz2⟩ := hzz
  obtain ⟨v1, w1, hrun, h2, hg, hm, hat⟩ := run_append_own_at (P := Tryz.prog) (w := W) base 29 ty 9 i0 (.string ⟨#[]⟩) 1 16 Tryz.underlying29 hi hz0 hz1 hz2 rfl (by decide) v xs.length _ (Kd.own_of_R HO) ad 1 c [.string x] rfl (fun j u hu => by
    match j, hu with
    | 0, hu => cases hu; rw [show ad.add 0 = ad by simp [Addr.add]]; exact hcell) (by intro u hu; rw [List.mem_singleton.1 hu]; rfl) (by simp only [maxLen]; omega) hl hbase
  refine ⟨v1, w1, hrun, Kd.R_of_own (enc := Value.string) (h1 := fun _ => rfl) ?_ (fun _ _ => trivial), hg⟩
  have e : encs Value.string xs ++ [Value.string x] = encs Value.string (xs ++ [x]) := by simp [encs]
  rw [← e, List.length_append]
  exact h2
set_option maxHeartbeats 8000000 in
set_option maxRecDepth 100000 in
theorem acts_law (acts : List S31) (ha : ∀ a ∈ acts, Aok a) (hn : acts.length ≤ 1048576) (A : Option Addr) (c : Nat) (W : World) (E : Env W) (hC : k31.C W A acts.length acts) (hc : acts.length ≤ c) : Calls Tryz.prog 3 #[.slice A acts.length c] W fun e w' => e = .returned (.bool true) ∧ Below W.heap.size W w' := by
  have HA := Aside0.mk ha
  have HE := Aside0.mk E
  have HC := Aside0.mk (And.intro hC hc)
  have HNN := Aside0.mk hn
  clear ha E hC
  go_enter Tryz.func3, Tryz.ntmps3
  go_wp2_with fail
  go_loopw [3, 4, 5, 6, 7, 8, 9, 10, 11, 12, 13, 14, 15, 16, 17] (fun v3 v4 v5 v6 v7 v8 v9 v10 v11 v12 v13 v14 v15 v16 v17 wr => ∃ (i : Nat), v3 = .int .i64 (i : Int) ∧ i ≤ acts.length ∧ Aside0 (Below W.heap.size W wr)) (fun v3 _ _ _ _ _ _ _ _ _ _ _ _ _ _ _ => acts.length - (intOf v3).toNat)
  case atStart => exact ⟨0, rfl, Nat.zero_le _, ⟨Below.refl _ _⟩⟩
  case round =>
    obtain ⟨i, rfl, hi, HB⟩ := hrel
    by_cases hlt : i < acts.length
    · have b1 : decide ((i : Int) < (acts.length : Int)) = true := decide_eq_true (by omega)
      have pi0 : (0 : Int) ≤ (i : Int) := by omega
      have pi1 : (i : Int) < (acts.length : Int) := by omega
      obtain ⟨adA, A3, c3, eA, x0, x1, x2, x3, x4, x5, x6, hx3, hxC⟩ := at_T31 (Kd.C_below HC.out.1 HB.out) (i : Int) pi0 pi1
      subst eA
      rw [Int.toNat_natCast] at x0 x1 x2 x3 x4 x5 x6
      have hrX : acts[i]? = some (rd_T31 acts (i : Int)) := by unfold rd_T31; rw [Int.toNat_natCast, List.getD_eq_getElem?_getD, List.getElem?_eq_getElem hlt]; rfl
      obtain ⟨X, hX⟩ : ∃ X, X = rd_T31 acts (i : Int) := ⟨_, rfl⟩
      rw [← hX] at x0 x1 x2 x3 x4 x5 x6 hx3 hxC hrX
      clear hX
      have HXA := Aside0.mk (HA.out X (List.mem_of_getElem? hrX))
      have HXC := Aside0.mk (And.intro hxC hx3)
      have hwi : wrap64 ((i : Int) + 1) = (i : Int) + 1 := wrap_next i (by have := HNN.out; omega)
      have HMS : Aside0 (acts.length - (intOf (Value.int IntKind.i64 ((i : Int) + 1))).toNat < acts.length - (intOf (Value.int IntKind.i64 (i : Int))).toNat) := ⟨meas_step _ _ hlt⟩
      have HI1 : Aside0 (i + 1 ≤ acts.length) := ⟨hlt⟩
      have hci : c ≠ i := by omega
      have HCX : Aside0 (∀ w', Below wr.heap.size wr w' → k31.C w' (some (adA.add (i * 7))) ([X].map (fun a => a)).length [X]) := ⟨fun w' hw => by
        have h1 := Kd.C_drop (m := i) (c := c) HC.out.1 (by omega) hc
        rw [if_neg hci] at h1
        have hl : (acts.drop i).length = acts.length - i := List.length_drop
        have h2 := Kd.C_take h1 (m := 1) (by rw [hl]; omega)
        have e : (acts.drop i).take 1 = [X] := by
          have hg := List.getElem?_eq_getElem hlt
          rw [hrX] at hg
          rw [List.drop_eq_getElem_cons hlt, ← Option.some.inj hg]; rfl
        rw [e] at h2
        exact Kd.C_below h2 (below_then HB.out HB.out.size hw)⟩
      have HLX : Aside0 (1 ≤ c - i) := ⟨by omega⟩
      have HCI := Aside0.mk hci
      clear hrX hxC hx3
      go_wp2_with fail
      obtain ⟨Wp, hWp⟩ : ∃ Wp, Wp = wr.alloc (.cells #[.int .i64 0, .int .i64 0, .slice (some (adA.add (i * 7))) 1 (c - i)] 24 (0, 0)) := ⟨_, rfl⟩
      have HWp : Aside0 (Below wr.heap.size wr Wp ∧ Wp.heap[wr.heap.size]? = some (.cells #[.int .i64 0, .int .i64 0, .slice (some (adA.add (i * 7))) 1 (c - i)] 24 (0, 0))) := ⟨by rw [hWp]; exact ⟨below_alloc (Below.refl _ _) _, blk_new wr _⟩⟩
      rw [← hWp]
      clear hWp
      refine (hand_calls 0 0 [X] (fun a h => by rw [List.mem_singleton.1 h]; exact HXA.out) (by simp) (some (adA.add (i * 7))) (c - i) Wp (HCX.out Wp HWp.out.1) HLX.out).mono ?_; rintro e w1 ⟨g, F, cF, vN, L, rfl, hL, hH, hg, hb1⟩
      obtain ⟨⟨X', t, cap⟩, rfl⟩ : ∃ e, L = [e] := by
        match L, hL with
        | [e], _ => exact ⟨e, rfl⟩
      obtain rfl : X' = X := by simpa using hL
      have HH1 : Aside0 (HandAt w1 Wp.heap.size g 0 0 1 F cF vN [(X', t, cap)] ∧ Wp.heap.size ≤ g ∧ Below wr.heap.size wr w1 ∧ w1.heap[wr.heap.size]? = some (.cells #[.int .i64 0, .int .i64 0, .slice (some (adA.add (i * 7))) 1 (c - i)] 24 (0, 0))) := ⟨hH, hg, below_then HWp.out.1 HWp.out.1.size hb1, (hb1.block _ (blk_lt HWp.out.2)).trans HWp.out.2⟩
      have HB1 : Aside0 (Below W.heap.size W w1) := ⟨below_then HB.out HB.out.size HH1.out.2.2.1⟩
      clear hL hH hg hb1
      have y0 := pw_cell_below HH1.out.2.2.1 x0
      have y1 := pw_cell_below HH1.out.2.2.1 x1
      have y2 := pw_cell_below HH1.out.2.2.1 x2
      have y3 := pw_cell_below HH1.out.2.2.1 x3
      have y4 := pw_cell_below HH1.out.2.2.1 x4
      have y5 := pw_cell_below HH1.out.2.2.1 x5
      have y6 := pw_cell_below HH1.out.2.2.1 x6
      go_wp2_with fail
      obtain ⟨o, ho⟩ : ∃ o : Value, o = .tuple #[.string (printA X').1, .int .i64 (printA X').2] := ⟨_, rfl⟩
      refine (refPrintAct_calls X' HXA.out A3 c3 w1 (HE.out.below HB1.out) (Kd.C_below HXC.out.1 HH1.out.2.2.1) HXC.out.2 o ⟨ho⟩).mono ?_; rintro e w2 ⟨rfl, hb2⟩
      subst ho
      have HH2 : Aside0 (HandAt w2 Wp.heap.size g 0 0 1 F cF vN [(X', t, cap)] ∧ Below wr.heap.size wr w2 ∧ w2.heap[wr.heap.size]? = some (.cells #[.int .i64 0, .int .i64 0, .slice (some (adA.add (i * 7))) 1 (c - i)] 24 (0, 0))) := ⟨HH1.out.1.next hb2, below_then HH1.out.2.2.1 HH1.out.2.2.1.size hb2, (hb2.block _ (blk_lt HH1.out.2.2.2)).trans HH1.out.2.2.2⟩
      have HB2 : Aside0 (Below W.heap.size W w2) := ⟨below_then HB.out HB.out.size HH2.out.2.1⟩
      clear hb2 y0 y1 y2 y3 y4 y5 y6
      have kg2 : w2.cell? ⟨g, 2, none⟩ = some (.slice (some ⟨F, 0, none⟩) 1 cF) := by rw [blk_cell HH2.out.1.blk]; rfl
      have hrw := raw_first HH2.out.1.full
      have z0 : w2.cell? ⟨F, 0, none⟩ = some (.int .i64 X'.f0) := hrw 0 _ rfl
      have z1 : w2.cell? ⟨F, 1, none⟩ = some (.string X'.f1) := hrw 1 _ rfl
      have z2 : w2.cell? ⟨F, 2, none⟩ = some (.string X'.f2) := hrw 2 _ rfl
      have z3 : w2.cell? ⟨F, 3, none⟩ = some (.slice (some ⟨t, 0, none⟩) X'.f3.length cap) := hrw 3 _ rfl
      have z4 : w2.cell? ⟨F, 4, none⟩ = some (.string X'.f4) := hrw 4 _ rfl
      have z5 : w2.cell? ⟨F, 5, none⟩ = some (.int .i64 X'.f5) := hrw 5 _ rfl
      have z6 : w2.cell? ⟨F, 6, none⟩ = some (.int .i64 X'.f6) := hrw 6 _ rfl
      clear hrw
      go_wp2_with fail
      obtain ⟨o, ho⟩ : ∃ o : Value, o = .tuple #[.string (printA X').1, .int .i64 (printA X').2] := ⟨_, rfl⟩
      have htw := HH2.out.1.twins _ (List.mem_singleton.2 rfl)
      refine (printAct_calls X' HXA.out (some ⟨t, 0, none⟩) cap w2 (HE.out.below HB2.out) (twin_C htw.2).2 (Nat.le_trans (Nat.le_add_right _ 8) htw.1) o ⟨ho⟩).mono ?_; rintro e w3 ⟨rfl, hb3⟩
      subst ho
      have HH3 : Aside0 (HandAt w3 Wp.heap.size g 0 0 1 F cF vN [(X', t, cap)] ∧ Below wr.heap.size wr w3 ∧ w3.heap[wr.heap.size]? = some (.cells #[.int .i64 0, .int .i64 0, .slice (some (adA.add (i * 7))) 1 (c - i)] 24 (0, 0))) := ⟨HH2.out.1.next hb3, below_then HH2.out.2.1 HH2.out.2.1.size hb3, (hb3.block _ (blk_lt HH2.out.2.2)).trans HH2.out.2.2⟩
      have HB3 : Aside0 (Below W.heap.size W w3) := ⟨below_then HB.out HB.out.size HH3.out.2.1⟩
      clear hb3 htw kg2 z0 z1 z2 z3 z4 z5 z6
      obtain ⟨ps, hps⟩ : ∃ ps, ps = (printA X').1 := ⟨_, rfl⟩
      obtain ⟨pn, hpn⟩ : ∃ pn, pn = (printA X').2 := ⟨_, rfl⟩
      rw [← hps, ← hpn]
      have HPS := Aside0.mk (And.intro hps hpn)
      clear hps hpn
      go_wp2_with fail
      refine (num_calls12 pn w3).mono ?_; rintro e w4 ⟨rfl, hb4⟩
      have HH4 : Aside0 (HandAt w4 Wp.heap.size g 0 0 1 F cF vN [(X', t, cap)] ∧ Below wr.heap.size wr w4 ∧ w4.heap[wr.heap.size]? = some (.cells #[.int .i64 0, .int .i64 0, .slice (some (adA.add (i * 7))) 1 (c - i)] 24 (0, 0))) := ⟨HH3.out.1.next hb4, below_then HH3.out.2.1 HH3.out.2.1.size hb4, (hb4.block _ (blk_lt HH3.out.2.2)).trans HH3.out.2.2⟩
      have HB4 : Aside0 (Below W.heap.size W w4) := ⟨below_then HB.out HB.out.size HH4.out.2.1⟩
      have k0 : w4.cell? ⟨wr.heap.size, 0, none⟩ = some (.int .i64 0) := by rw [blk_cell HH4.out.2.2]; rfl
      have k1 : w4.cell? ⟨wr.heap.size, 1, none⟩ = some (.int .i64 0) := by rw [blk_cell HH4.out.2.2]; rfl
      have k2 : w4.cell? ⟨wr.heap.size, 2, none⟩ = some (.slice (some (adA.add (i * 7))) 1 (c - i)) := by rw [blk_cell HH4.out.2.2]; rfl
      clear hb4
      go_wp2_with fail
      refine (left_calls w4 Wp.heap.size g 0 0 1 F cF vN [(X', t, cap)] HH4.out.1 (fun e h => by rw [List.mem_singleton.1 h]; exact HXA.out) (by decide) (some (adA.add (i * 7))) (c - i) (Kd.C_below (HCX.out wr (Below.refl _ _)) HH4.out.2.1) HLX.out).mono ?_; rintro e w5 ⟨rfl, hb5⟩
      have HH5 : Aside0 (HandAt w5 Wp.heap.size g 0 0 1 F cF vN [(X', t, cap)] ∧ Below wr.heap.size wr w5) := ⟨HH4.out.1.next hb5, below_then HH4.out.2.1 HH4.out.2.1.size hb5⟩
      have HB5 : Aside0 (Below W.heap.size W w5) := ⟨below_then HB.out HB.out.size HH5.out.2⟩
      clear hb5 k0 k1 k2
      have y0 := pw_cell_below HH5.out.2 x0
      have y1 := pw_cell_below HH5.out.2 x1
      have y2 := pw_cell_below HH5.out.2 x2
      have y3 := pw_cell_below HH5.out.2 x3
      have y4 := pw_cell_below HH5.out.2 x4
      have y5 := pw_cell_below HH5.out.2 x5
      have y6 := pw_cell_below HH5.out.2 x6
      have HXC5 : Aside0 (Kd.C Kd.string w5 A3 X'.f3.length X'.f3 ∧ X'.f3.length ≤ c3) := ⟨Kd.C_below HXC.out.1 HH5.out.2, HXC.out.2⟩
      have hmc := HXA.out.count
      go_wp2_with fail
      obtain ⟨W6, hW6⟩ : ∃ W6, W6 = w5.alloc (.cells #[.int .i64 X'.f0, .string X'.f1, .string X'.f2, .slice none 0 0, .string X'.f4, .int .i64 X'.f5, .int .i64 X'.f6] 31 (0, 0)) := ⟨_, rfl⟩
      have HW6 : Aside0 (W6.heap[w5.heap.size]? = some (.cells #[.int .i64 X'.f0, .string X'.f1, .string X'.f2, .slice none 0 0, .string X'.f4, .int .i64 X'.f5, .int .i64 X'.f6] 31 (0, 0)) ∧ Kd.R Kd.string 9 W6 w5.heap.size (fun _ => True) (.slice none 0 0) (X'.f3.reverse.take 0) ∧ Below w5.heap.size w5 W6) := ⟨by rw [hW6, List.take_zero]; exact ⟨blk_new w5 _, Kd.R_nil _ _ _ _ _, below_alloc (Below.refl _ _) _⟩⟩
      rw [← hW6]
      clear hW6 y0 y1 y2 y4 y5 y6
      obtain ⟨wo, rfl⟩ : ∃ wo : World, wo = wr := ⟨_, rfl⟩
      go_loopw [12] (fun v12 wr => ∃ (j : Nat), v12 = .int .i64 (j : Int) ∧ j ≤ X'.f3.length ∧ Aside0 (∃ v, wr.heap[w5.heap.size]? = some (.cells #[.int .i64 X'.f0, .string X'.f1, .string X'.f2, v, .string X'.f4, .int .i64 X'.f5, .int .i64 X'.f6] 31 (0, 0)) ∧ Kd.R Kd.string 9 wr w5.heap.size (fun _ => True) v (X'.f3.reverse.take j) ∧ Below w5.heap.size w5 wr)) (fun v12 _ => X'.f3.length - (intOf v12).toNat)
      case atStart => exact ⟨0, rfl, Nat.zero_le _, ⟨_, HW6.out⟩⟩
      case round =>
        clear HW6
        obtain ⟨j, rfl, hj, HL⟩ := hrel
        obtain ⟨v, hL⟩ := HL.out
        have HL := Aside0.mk hL
        clear hL
        by_cases hjl : j < X'.f3.length
        · have b2 : decide ((j : Int) < (X'.f3.length : Int)) = true := decide_eq_true (by omega)
          have hwj : wrap64 ((j : Int) + 1) = (j : Int) + 1 := wrap_next j (by omega)
          have HMJ : Aside0 (X'.f3.length - (intOf (Value.int IntKind.i64 ((j : Int) + 1))).toNat < X'.f3.length - (intOf (Value.int IntKind.i64 (j : Int))).toNat) := ⟨meas_step _ _ hjl⟩
          have HJ1 : Aside0 (j + 1 ≤ X'.f3.length) := ⟨hjl⟩
          have HIX : Aside0 (wrap64 ((X'.f3.length : Int) - 1) = ((X'.f3.length - 1 : Nat) : Int) ∧ wrap64 (((X'.f3.length - 1 : Nat) : Int) - (j : Int)) = ((X'.f3.length - 1 - j : Nat) : Int) ∧ (0 : Int) ≤ ((X'.f3.length - 1 - j : Nat) : Int) ∧ ((X'.f3.length - 1 - j : Nat) : Int) < (X'.f3.length : Int)) := ⟨by
            refine ⟨?_, ?_, ?_, ?_⟩
            · unfold wrap64; omega
            · unfold wrap64; omega
            · omega
            · omega⟩
          have HLN : Aside0 (((X'.f3.reverse.take j).length + 1) * 16 ≤ 140737488355328) := ⟨by rw [List.length_take]; omega⟩
          obtain ⟨ad3, e3, kn⟩ := Kd.at_string (Kd.C_below HXC5.out.1 HL.out.2.2) ((X'.f3.length - 1 - j : Nat) : Int) HIX.out.2.2.1 HIX.out.2.2.2
          subst e3
          rw [Int.toNat_natCast] at kn
          obtain ⟨nm, hnm⟩ : ∃ nm, nm = rdOf ByteArray.empty X'.f3 ((X'.f3.length - 1 - j : Nat) : Int) := ⟨_, rfl⟩
          rw [← hnm] at kn
          have HTK : Aside0 (X'.f3.reverse.take (j + 1) = X'.f3.reverse.take j ++ [nm]) := ⟨by
            have hlr : j < X'.f3.reverse.length := by rw [List.length_reverse]; exact hjl
            rw [List.take_add_one, List.getElem?_eq_getElem hlr, List.getElem_reverse]
            have : nm = X'.f3[X'.f3.length - 1 - j]'(by omega) := by
              rw [hnm]; unfold rdOf; rw [Int.toNat_natCast, List.getD_eq_getElem?_getD, List.getElem?_eq_getElem (by omega)]; rfl
            rw [this]; rfl⟩
          have ka3 : wr.cell? ⟨w5.heap.size, 3, none⟩ = some v := by rw [blk_cell HL.out.1]; rfl
          have kx3 := pw_cell_below HL.out.2.2 y3
          have b3 : (j < X'.f3.length) = True := eq_true hjl
          have b4 : decide (j < X'.f3.length) = true := decide_eq_true hjl
          clear hnm hjl hj
          go_wp2_with fail
          refine region_facts (ws := [14, 16]) (G := fun e w' => Aside0 ((e = 0 → Below wr.heap.size wr w') ∧ (e = 1 → Still wr w' (fun k => some k = v.ownBlock)) ∧ (e = 2 → ∃ v1, Still wr w' (fun k => k = w5.heap.size ∨ some k = v.ownBlock) ∧ w'.heap[w5.heap.size]? = some (.cells #[.int .i64 X'.f0, .string X'.f1, .string X'.f2, v1, .string X'.f4, .int .i64 X'.f5, .int .i64 X'.f6] 31 (0, 0)) ∧ Kd.R Kd.string 9 w' w5.heap.size (fun _ => True) v1 (X'.f3.reverse.take j ++ [nm])))) (φs := [Fact.eq (.pointer (some ⟨w5.heap.size, 3, none⟩)), Fact.eq (v), Fact.eq (.slice (some adA) acts.length c), Fact.eq (.int .i64 (i : Int)), Fact.eq (.pointer (some (adA.add (i * 7)))), Fact.eq (.pointer (some ⟨(adA.add (i * 7)).block, (adA.add (i * 7)).off + 3, none⟩)), Fact.eq ((.slice (some ad3) X'.f3.length c3)), Fact.eq ((.int .i64 (X'.f3.length : Int))), Fact.eq (.int .i64 (X'.f3.length - 1 : Nat)), Fact.eq (.int .i64 (j : Int)), Fact.eq (.int .i64 (X'.f3.length - 1 - j : Nat)), Fact.eq ((.pointer (some (ad3.add (X'.f3.length - 1 - j))))), Fact.eq (.string nm), (⟨fun e x w' => e = 0 → ∃ ad, x = .slice (some ad) 1 1 ∧ w'.cell? ad = some (.string nm), fun _ _ _ _ h hb he => by obtain ⟨ad, h1, h2⟩ := h he; exact ⟨ad, h1, pw_cell_below hb h2⟩⟩ : Fact), (⟨fun e x w' => 1 ≤ e ∧ Kd.R Kd.string 9 w' w5.heap.size (fun _ => True) x (X'.f3.reverse.take j ++ [nm]), fun _ _ _ _ h hb => ⟨h.1, Kd.R_below h.2 hb⟩⟩ : Fact), Fact.eq (.pointer (some ⟨w5.heap.size, 3, none⟩)), Fact.none]) (n := 17) (m := 155) (by kernel_rfl) (by kernel_rfl) rfl rfl (by kernel_rfl) (fun _ _ _ h hb => ⟨fun he => below_then (h.out.1 he) (h.out.1 he).size hb, fun he => (h.out.2.1 he).then hb, fun he => by obtain ⟨v1, h1, h2, h3⟩ := h.out.2.2 he; exact ⟨v1, h1.then hb, (hb.block _ (blk_lt h2)).trans h2, Kd.R_below h3 hb⟩⟩) (⟨fun _ => below_drew (Below.refl _ _), fun he => (by cases he), fun he => (by cases he)⟩) ⟨?o0, ?o1, ?o2, ?o3, ?o4, ?o5, ?o6, ?o7, ?o8, ?o9, ?o10, ?o11, ?o12, ?o13, ?o14, ?o15, ?o16, trivial⟩ ?fin
          case o0 =>
            refine ask_val [.fix 11 _] rfl 84 rfl (.inl rfl) ⟨⟨by kernel_rfl, by conv => lhs; whnf⟩, trivial⟩ ?_
            dsimp only [Has, Fact.eq]
            intro e ρ w' hc hf hg hG h11
            go_simp
            first | done | rfl
          case o1 =>
            refine ask_step [.op 84 0 (Fact.eq _)] rfl 85 rfl (.inl rfl) ⟨⟨by kernel_rfl, rfl⟩, trivial⟩ 0 0 (by kernel_rfl) ?_
            dsimp only [Has, Fact.eq]
            intro e ρ w' hp hq hc hf hg hG h84
            obtain rfl : e = 0 := by omega
            have q0 := pw_cell_below (hG.out.1 rfl) ka3
            refine ⟨_, w', ?_, rfl, Below.refl _ _⟩
            go_simp
            first | done | rfl
          case o2 =>
            refine ask_val [.fix 0 _] rfl 86 rfl (.inl rfl) ⟨⟨by kernel_rfl, by conv => lhs; whnf⟩, trivial⟩ ?_
            dsimp only [Has, Fact.eq]
            intro e ρ w' hc hf hg hG h0
            go_simp
            first | done | rfl
          case o3 =>
            refine ask_val [.fix 3 _] rfl 87 rfl (.inl rfl) ⟨⟨by kernel_rfl, by conv => lhs; whnf⟩, trivial⟩ ?_
            dsimp only [Has, Fact.eq]
            intro e ρ w' hc hf hg hG h3
            go_simp
            first | done | rfl
          case o4 =>
            refine ask_val [.op 86 2 (Fact.eq _), .op 87 3 (Fact.eq _)] rfl 88 rfl (.inl rfl) ⟨⟨by kernel_rfl, rfl⟩, ⟨by kernel_rfl, rfl⟩, trivial⟩ ?_
            dsimp only [Has, Fact.eq]
            intro e ρ w' hc hf hg hG h86 h87
            have y0 := pi0
            have y1 := pi1
            go_simp
            first | done | rfl
          case o5 =>
            refine ask_val [.op 88 4 (Fact.eq _)] rfl 89 rfl (.inl rfl) ⟨⟨by kernel_rfl, rfl⟩, trivial⟩ ?_
            dsimp only [Has, Fact.eq]
            intro e ρ w' hc hf hg hG h88
            go_simp
            first | done | rfl
          case o6 =>
            refine ask_step [.op 89 5 (Fact.eq _)] rfl 90 rfl (.inl rfl) ⟨⟨by kernel_rfl, rfl⟩, trivial⟩ 0 0 (by kernel_rfl) ?_
            dsimp only [Has, Fact.eq]
            intro e ρ w' hp hq hc hf hg hG h89
            obtain rfl : e = 0 := by omega
            have q0 := pw_cell_below (hG.out.1 rfl) kx3
            refine ⟨_, w', ?_, rfl, Below.refl _ _⟩
            go_simp
            first | done | rfl
          case o7 =>
            refine ask_val [.fix 10 _] rfl 91 rfl (.inl rfl) ⟨⟨by kernel_rfl, by conv => lhs; whnf⟩, trivial⟩ ?_
            dsimp only [Has, Fact.eq]
            intro e ρ w' hc hf hg hG h10
            go_simp
            first | done | rfl
          case o8 =>
            refine ask_val [.op 91 7 (Fact.eq _)] rfl 92 rfl (.inl rfl) ⟨⟨by kernel_rfl, rfl⟩, trivial⟩ ?_
            dsimp only [Has, Fact.eq]
            intro e ρ w' hc hf hg hG h91
            go_simp
            (rw [i64_w, HIX.out.1])
          case o9 =>
            refine ask_val [.fix 12 _] rfl 93 rfl (.inl rfl) ⟨⟨by kernel_rfl, by conv => lhs; whnf⟩, trivial⟩ ?_
            dsimp only [Has, Fact.eq]
            intro e ρ w' hc hf hg hG h12
            go_simp
            first | done | rfl
          case o10 =>
            refine ask_val [.op 92 8 (Fact.eq _), .op 93 9 (Fact.eq _)] rfl 94 rfl (.inl rfl) ⟨⟨by kernel_rfl, rfl⟩, ⟨by kernel_rfl, rfl⟩, trivial⟩ ?_
            dsimp only [Has, Fact.eq]
            intro e ρ w' hc hf hg hG h92 h93
            go_simp
            (rw [i64_w, HIX.out.2.1])
          case o11 =>
            refine ask_val [.op 90 6 (Fact.eq _), .op 94 10 (Fact.eq _)] rfl 95 rfl (.inl rfl) ⟨⟨by kernel_rfl, rfl⟩, ⟨by kernel_rfl, rfl⟩, trivial⟩ ?_
            dsimp only [Has, Fact.eq]
            intro e ρ w' hc hf hg hG h90 h94
            have y0 := HIX.out.2.2.1
            have y1 := HIX.out.2.2.2
            go_simp
            first | done | rfl
          case o12 =>
            refine ask_step [.op 95 11 (Fact.eq _)] rfl 96 rfl (.inl rfl) ⟨⟨by kernel_rfl, rfl⟩, trivial⟩ 0 0 (by kernel_rfl) ?_
            dsimp only [Has, Fact.eq]
            intro e ρ w' hp hq hc hf hg hG h95
            obtain rfl : e = 0 := by omega
            have q0 := pw_cell_below (hG.out.1 rfl) kn
            refine ⟨_, w', ?_, rfl, Below.refl _ _⟩
            go_simp
            first | done | rfl
          case o13 =>
            refine ask_step [.op 96 12 (Fact.eq _)] rfl 97 rfl (.inl rfl) ⟨⟨by kernel_rfl, rfl⟩, trivial⟩ 0 0 (by kernel_rfl) ?_
            dsimp only [Has, Fact.eq]
            intro e ρ w' hp hq hc hf hg hG h96
            refine ⟨.slice (some ⟨w'.heap.size, 0, none⟩) 1 1, w'.alloc (.cells #[.string nm] 9), ?_, fun _ => ⟨_, rfl, by rw [blk_cell (blk_new w' _)]; rfl⟩, below_alloc (Below.refl _ _) _⟩
            go_simp
            first | done | rfl
          case o14 =>
            refine ask_wval [.op 85 1 (Fact.eq _), .op 97 13 _] rfl 98 rfl (.inl rfl) ⟨⟨by kernel_rfl, rfl⟩, ⟨by kernel_rfl, rfl⟩, trivial⟩ 0 0 (by kernel_rfl) ?_
            dsimp only [Has, Fact.eq]
            intro e ρ w' hp hq hc hf hg hG h85 h97
            obtain rfl : e = 0 := by omega
            obtain ⟨ad8, e8, hc8⟩ := h97 rfl
            have hb0 := hG.out.1 rfl
            obtain ⟨v1, w1, hrun, hR3, hg3⟩ := run_append_str1 w' w5.heap.size v (X'.f3.reverse.take j) nm ad8 1 29 (Kd.R_below HL.out.2.1 hb0) hc8 (Nat.le_trans HL.out.2.2.size hb0.size) HLN.out
            refine ⟨v1, w1, ?_, ⟨Nat.le_refl 1, hR3⟩, ⟨fun he => (by cases he), fun _ => (Still.of hb0).trans (Still.grown hg3 (S := fun k => some k = v.ownBlock) (fun k hk => hk.symm)) (fun _ _ h => h), fun he => (by cases he)⟩, ⟨fun _ h => h, fun _ h => h, fun _ h => h, fun _ h => h, fun _ h => h, fun _ h => h, fun _ h => h, fun _ h => h, fun _ h => h, fun _ h => h, fun _ h => h, fun _ h => h, fun _ h => h, fun _ _ he => absurd he (Nat.succ_ne_zero _), fun _ h => absurd h.1 (by decide), fun _ h => h, fun _ h => h, trivial⟩⟩
            unfold execOp
            simp only [resolve, invoke, builtin, Sem.run_bind, Sem.run_pure, Result.andThen_ok, List.map_toArray, List.map_cons, List.map_nil, e8, h85, hrun]
          case o15 =>
            refine ask_val [.fix 11 _] rfl 99 rfl (.inl rfl) ⟨⟨by kernel_rfl, by conv => lhs; whnf⟩, trivial⟩ ?_
            dsimp only [Has, Fact.eq]
            intro e ρ w' hc hf hg hG h11
            go_simp
            first | done | rfl
          case o16 =>
            refine ask_store [.op 99 15 (Fact.eq _), .op 98 14 _] rfl rfl (.inl rfl) ⟨⟨by kernel_rfl, rfl⟩, ⟨by kernel_rfl, rfl⟩, trivial⟩ 1 1 (by kernel_rfl) ?_
            dsimp only [Has, Fact.eq]
            intro e ρ w' hp hq hc hf hg hG h99 h98
            obtain rfl : e = 1 := by omega
            have hs1 := hG.out.2.1 rfl
            have hbk := hs1.blk HL.out.1 (fun e => Kd.R_ne HL.out.2.1 HL.out.1 (by decide) e)
            obtain ⟨g9, c9, e9, _⟩ := Kd.R_form h98.2 (by rw [List.length_append]; exact Nat.succ_pos _)
            have c0 : w'.cell? ⟨w5.heap.size, 3, none⟩ = some v := by rw [blk_cell hbk]; rfl
            have f0 : w'.frozen? ⟨w5.heap.size, 3, none⟩ = false := blk_frozen hbk _
            refine ⟨w'.setCell ⟨w5.heap.size, 3, none⟩ (ρ (.tmp 98)), ?_, trivial, ⟨fun he => (by cases he), fun he => (by cases he), fun _ => ⟨ρ (.tmp 98), (hs1.mono (fun _ h => Or.inr h)).trans (Still.set (S := fun k => k = w5.heap.size ∨ some k = v.ownBlock) _ _ _ (Or.inl rfl)) (fun _ _ h => h), blk_set hbk 3 _, R_still (S := fun k => k = w5.heap.size) h98.2 (Still.set _ _ _ rfl) (fun k cells q hq hk e => by subst e; have hq' : q = 9 := (by simpa [Kd.string, Kd.scalar] using hq); subst hq'; exact absurd rfl (blk_ne hk hbk (by decide)))⟩⟩, ⟨fun _ h => h, fun _ h => h, fun _ h => h, fun _ h => h, fun _ h => h, fun _ h => h, fun _ h => h, fun _ h => h, fun _ h => h, fun _ h => h, fun _ h => h, fun _ h => h, fun _ h => h, fun _ _ he => absurd he (by decide), fun _ h => ⟨by decide, R_still (S := fun k => k = w5.heap.size) h.2 (Still.set _ _ _ rfl) (fun k cells q hq hk e => by subst e; have hq' : q = 9 := (by simpa [Kd.string, Kd.scalar] using hq); subst hq'; exact absurd rfl (blk_ne hk hbk (by decide)))⟩, fun _ h => h, fun _ h => h, trivial⟩⟩
            rw [e9]
            go_simp
            first | done | rfl
          case fin =>
            intro w' hG
            refine fin_eq (fin_eq (fin_eq (fin_eq (fin_eq (fin_eq (fin_eq (fin_eq (fin_eq (fin_eq (fin_eq (fin_eq (fin_eq (fin_fact (fun v13 hv13 => fin_fact (fun v14 hv14 => fin_eq (fin_fact (fun v16 hv16 => fin_nil (a' := ?_) ?_ ?_)))))))))))))))))
            rotate_left
            · simp only [Act.put, List.setIfInBounds_toArray, List.set_cons_zero, List.set_cons_succ]
              rfl
            obtain ⟨v1, hs9, hb9, hR9⟩ := hG.out.2.2 rfl
            have HNX : Aside0 (Below w5.heap.size w5 w') := ⟨HL.out.2.2.trans (hs9.below HL.out.2.2.size (fun k h => by
              rcases h with h | h
              · omega
              · exact Kd.R_base HL.out.2.1 k h.symm))⟩
            have HNY := Aside0.mk (And.intro hb9 hR9)
            clear hG hs9 hb9 hR9
            go_wp2_with fail
            go_roundw
            case rel => exact ⟨j + 1, by first | rfl | (rw [hwj]; rfl), HJ1.out, ⟨v1, HNY.out.1, by rw [HTK.out]; exact HNY.out.2, HNX.out⟩⟩
            case measure => first | exact HMJ.out | (rw [hwj]; exact HMJ.out)
        · have b2 : decide ((j : Int) < (X'.f3.length : Int)) = false := decide_eq_false (by omega)
          have b3 : (j < X'.f3.length) = False := eq_false hjl
          have b4 : decide (j < X'.f3.length) = false := decide_eq_false hjl
          have HRV : Aside0 (Kd.R Kd.string 9 wr w5.heap.size (fun _ => True) v X'.f3.reverse) := ⟨by
            have := HL.out.2.1
            rw [List.take_of_length_le (by rw [List.length_reverse]; omega)] at this
            exact this⟩
          clear hjl hj
          go_wp2_with fail
          obtain ⟨w7, rfl⟩ : ∃ w7 : World, w7 = wr := ⟨_, rfl⟩
          have HH7 : Aside0 (HandAt w7 Wp.heap.size g 0 0 1 F cF vN [(X', t, cap)] ∧ Below W.heap.size W w7 ∧ t < w5.heap.size) := ⟨HH5.out.1.next HL.out.2.2, below_then HB5.out HB5.out.size HL.out.2.2, by
            have := (HH5.out.1.twins _ (List.mem_singleton.2 rfl)).2
            exact Kd.R_lt this t rfl⟩
          have HTW : Aside0 (Kd.R Kd.string 9 w7 Wp.heap.size (fun _ => True) (.slice (some ⟨t, 0, none⟩) (X'.f3.length + 8) cap) (mixL X'.f3 0)) := ⟨by rw [mix_0]; exact (HH7.out.1.twins _ (List.mem_singleton.2 rfl)).2⟩
          obtain ⟨AN, cN, eN, hcN, hNN⟩ := HH7.out.1.reads.2.2
          obtain ⟨adN, eA, hNc⟩ := hNN (by decide)
          subst eN eA
          have kN0 := (hNc 0 _ rfl).1
          rw [show adN.add 0 = adN by simp [Addr.add]] at kN0
          have HNT : Aside0 (∃ cells, w7.heap[adN.block]? = some (.cells cells 29 (0, 0))) := ⟨Kd.R_typed HH7.out.1.names adN.block rfl⟩
          obtain ⟨AV, cV, eV, hcV, hCV⟩ := Kd.R_reads HRV.out
          rw [List.length_reverse] at eV hcV hCV
          subst eV
          have HVB : Aside0 (∀ a, AV = some a → w5.heap.size ≤ a.block ∧ ∃ cells, w7.heap[a.block]? = some (.cells cells 9 (0, 0))) := ⟨fun a e => by
            subst e
            exact ⟨Kd.R_base HRV.out a.block rfl, Kd.R_typed HRV.out a.block rfl⟩⟩
          have kg40 : w7.cell? ⟨g, 4, none⟩ = some (.slice (some adN) 1 cN) := by rw [blk_cell HH7.out.1.blk]; rfl
          have kv30 : w7.cell? ⟨w5.heap.size, 3, none⟩ = some (.slice AV X'.f3.length cV) := by rw [blk_cell HL.out.1]; rfl
          have H7 : Aside0 (w7.cell? ⟨g, 4, none⟩ = some (.slice (some adN) 1 cN) ∧ w7.cell? adN = some (.slice (some ⟨t, 0, none⟩) (X'.f3.length + 8) cap) ∧ w7.cell? ⟨w5.heap.size, 3, none⟩ = some (.slice AV X'.f3.length cV) ∧ Kd.C Kd.string w7 AV X'.f3.length X'.f3.reverse ∧ X'.f3.length ≤ cV) := ⟨kg40, kN0, kv30, hCV, hcV⟩
          have HBa := Aside0.mk HL.out.1
          clear hNN hNc kN0 hCV hcV kg40 kv30 HL
          go_loopw [13] (fun v13 wr => ∃ (j : Nat), v13 = .int .i64 (j : Int) ∧ j ≤ X'.f3.length ∧ Aside0 (Kd.R Kd.string 9 wr Wp.heap.size (fun _ => True) (.slice (some ⟨t, 0, none⟩) (X'.f3.length + 8) cap) (mixL X'.f3 j) ∧ Still w7 wr (fun k => k = t))) (fun v13 _ => X'.f3.length - (intOf v13).toNat)
          case atStart => exact ⟨0, rfl, Nat.zero_le _, ⟨HTW.out, Still.of (Below.refl _ _)⟩⟩
          case round =>
            clear b2 b3 b4
            obtain ⟨j, rfl, hj, HL⟩ := hrel
            by_cases hjl : j < X'.f3.length
            · have b2 : decide ((j : Int) < (X'.f3.length : Int)) = true := decide_eq_true (by omega)
              have b3 : (j < X'.f3.length) = True := eq_true hjl
              have b4 : decide (j < X'.f3.length) = true := decide_eq_true hjl
              have hwj : wrap64 ((j : Int) + 1) = (j : Int) + 1 := wrap_next j (by omega)
              have HMJ : Aside0 (X'.f3.length - (intOf (Value.int IntKind.i64 ((j : Int) + 1))).toNat < X'.f3.length - (intOf (Value.int IntKind.i64 (j : Int))).toNat) := ⟨meas_step _ _ hjl⟩
              have HJ1 : Aside0 (j + 1 ≤ X'.f3.length) := ⟨hjl⟩
              have pj0 : (0 : Int) ≤ (j : Int) := by omega
              have pj1 : (j : Int) < (X'.f3.length : Int) := by omega
              have pj2 : (j : Int) < ((X'.f3.length + 8 : Nat) : Int) := by omega
              obtain ⟨adV, eV, kn0⟩ := Kd.at_string H7.out.2.2.2.1 (j : Int) pj0 pj1
              subst eV
              rw [Int.toNat_natCast] at kn0
              obtain ⟨hvb, cellsV, hvt⟩ := HVB.out adV rfl
              have hmv : ∀ (a : Addr) (x : Value), a.block ≠ t → w7.cell? a = some x → wr.cell? a = some x := fun a x ha hx => by
                have hlt := World.block_lt_of_cell? w7 a hx
                rw [World.cell?_of_block (HL.out.2.block a.block hlt ha)]; exact hx
              have tne : ∀ k, w5.heap.size ≤ k → k ≠ t := fun k hk e => by have := HH7.out.2.2; omega
              have ht9 : ∃ cells, w7.heap[t]? = some (.cells cells 9 (0, 0)) := Kd.R_typed HTW.out t rfl
              obtain ⟨cellsT, ht9⟩ := ht9
              have kg4 := hmv _ _ (fun e => by have e' : g = t := e; rw [← e'] at ht9; exact absurd rfl (blk_ne HH7.out.1.blk ht9 (by decide))) H7.out.1
              have kN := hmv _ _ (fun e => by obtain ⟨_, hy⟩ := HNT.out; exact absurd rfl (blk_ne (e ▸ hy : w7.heap[t]? = _) ht9 (by decide))) H7.out.2.1
              have kv3 := hmv _ _ (tne _ (Nat.le_refl _)) H7.out.2.2.1
              have kn := hmv _ _ (by rw [add_block]; exact tne _ hvb) kn0
              obtain ⟨nm, hnm⟩ : ∃ nm, nm = rdOf ByteArray.empty X'.f3.reverse (j : Int) := ⟨_, rfl⟩
              rw [← hnm] at kn
              have HMX : Aside0 ((mixL X'.f3 j).set j nm = mixL X'.f3 (j + 1)) := ⟨by rw [hnm]; exact mix_next _ _ hjl⟩
              clear hnm hmv tne ht9 hvt hvb kn0 hjl hj
              go_wp2_with fail
              refine region_facts (ws := [13]) (G := fun e w' => Aside0 ((e = 0 → Below wr.heap.size wr w') ∧ (e = 1 → Still wr w' (fun k => k = t) ∧ Kd.R Kd.string 9 w' Wp.heap.size (fun _ => True) (.slice (some ⟨t, 0, none⟩) (X'.f3.length + 8) cap) ((mixL X'.f3 j).set j nm)))) (φs := [Fact.eq (.pointer (some ⟨g, 0, none⟩)), Fact.eq (.pointer (some ⟨g, 0, none⟩)), Fact.eq (.pointer (some ⟨g, 4, none⟩)), Fact.eq (.slice (some adN) 1 cN), Fact.eq (.pointer (some adN)), Fact.eq ((.slice (some ⟨t, 0, none⟩) (X'.f3.length + 8) cap)), Fact.eq (.int .i64 (j : Int)), Fact.eq (.pointer (some ⟨w5.heap.size, 3, none⟩)), Fact.eq ((.slice (some adV) X'.f3.length cV)), Fact.eq (.int .i64 (j : Int)), Fact.eq (.pointer (some (adV.add j))), Fact.eq (.string nm), Fact.eq (.pointer (some ⟨t, j, none⟩)), Fact.none]) (n := 14) (m := 155) (by kernel_rfl) (by kernel_rfl) rfl rfl (by kernel_rfl) (fun _ _ _ h hb => ⟨fun he => below_then (h.out.1 he) (h.out.1 he).size hb, fun he => ⟨(h.out.2 he).1.then hb, Kd.R_below (h.out.2 he).2 hb⟩⟩) (⟨fun _ => below_drew (Below.refl _ _), fun he => (by cases he)⟩) ⟨?oy0, ?oy1, ?oy2, ?oy3, ?oy4, ?oy5, ?oy6, ?oy7, ?oy8, ?oy9, ?oy10, ?oy11, ?oy12, ?oy13, trivial⟩ ?finy
              case oy0 =>
                refine ask_val [.fix 5 _] rfl 105 rfl (.inl rfl) ⟨⟨by kernel_rfl, by conv => lhs; whnf⟩, trivial⟩ ?_
                dsimp only [Has, Fact.eq]
                intro e ρ w' hc hf hg hG h5
                go_simp
                first | done | rfl
              case oy1 =>
                refine ask_val [.op 105 0 (Fact.eq _)] rfl 106 rfl (.inl rfl) ⟨⟨by kernel_rfl, rfl⟩, trivial⟩ ?_
                dsimp only [Has, Fact.eq]
                intro e ρ w' hc hf hg hG h105
                go_simp
                first | done | rfl
              case oy2 =>
                refine ask_val [.op 106 1 (Fact.eq _)] rfl 107 rfl (.inl rfl) ⟨⟨by kernel_rfl, rfl⟩, trivial⟩ ?_
                dsimp only [Has, Fact.eq]
                intro e ρ w' hc hf hg hG h106
                go_simp
                first | done | rfl
              case oy3 =>
                refine ask_step [.op 107 2 (Fact.eq _)] rfl 108 rfl (.inl rfl) ⟨⟨by kernel_rfl, rfl⟩, trivial⟩ 0 0 (by kernel_rfl) ?_
                dsimp only [Has, Fact.eq]
                intro e ρ w' hp hq hc hf hg hG h107
                obtain rfl : e = 0 := by omega
                have q0 := pw_cell_below (hG.out.1 rfl) kg4
                refine ⟨_, w', ?_, rfl, Below.refl _ _⟩
                go_simp
                first | done | rfl
              case oy4 =>
                refine ask_val [.op 108 3 (Fact.eq _)] rfl 109 rfl (.inl rfl) ⟨⟨by kernel_rfl, rfl⟩, trivial⟩ ?_
                dsimp only [Has, Fact.eq]
                intro e ρ w' hc hf hg hG h108
                go_simp
                first | done | rfl
              case oy5 =>
                refine ask_step [.op 109 4 (Fact.eq _)] rfl 110 rfl (.inl rfl) ⟨⟨by kernel_rfl, rfl⟩, trivial⟩ 0 0 (by kernel_rfl) ?_
                dsimp only [Has, Fact.eq]
                intro e ρ w' hp hq hc hf hg hG h109
                obtain rfl : e = 0 := by omega
                have q0 := pw_cell_below (hG.out.1 rfl) kN
                refine ⟨_, w', ?_, rfl, Below.refl _ _⟩
                go_simp
                first | done | rfl
              case oy6 =>
                refine ask_val [.fix 13 _] rfl 111 rfl (.inl rfl) ⟨⟨by kernel_rfl, by conv => lhs; whnf⟩, trivial⟩ ?_
                dsimp only [Has, Fact.eq]
                intro e ρ w' hc hf hg hG h13
                go_simp
                first | done | rfl
              case oy7 =>
                refine ask_val [.fix 11 _] rfl 112 rfl (.inl rfl) ⟨⟨by kernel_rfl, by conv => lhs; whnf⟩, trivial⟩ ?_
                dsimp only [Has, Fact.eq]
                intro e ρ w' hc hf hg hG h11
                go_simp
                first | done | rfl
              case oy8 =>
                refine ask_step [.op 112 7 (Fact.eq _)] rfl 113 rfl (.inl rfl) ⟨⟨by kernel_rfl, rfl⟩, trivial⟩ 0 0 (by kernel_rfl) ?_
                dsimp only [Has, Fact.eq]
                intro e ρ w' hp hq hc hf hg hG h112
                obtain rfl : e = 0 := by omega
                have q0 := pw_cell_below (hG.out.1 rfl) kv3
                refine ⟨_, w', ?_, rfl, Below.refl _ _⟩
                go_simp
                first | done | rfl
              case oy9 =>
                refine ask_val [.fix 13 _] rfl 114 rfl (.inl rfl) ⟨⟨by kernel_rfl, by conv => lhs; whnf⟩, trivial⟩ ?_
                dsimp only [Has, Fact.eq]
                intro e ρ w' hc hf hg hG h13
                go_simp
                first | done | rfl
              case oy10 =>
                refine ask_val [.op 113 8 (Fact.eq _), .op 114 9 (Fact.eq _)] rfl 115 rfl (.inl rfl) ⟨⟨by kernel_rfl, rfl⟩, ⟨by kernel_rfl, rfl⟩, trivial⟩ ?_
                dsimp only [Has, Fact.eq]
                intro e ρ w' hc hf hg hG h113 h114
                have y0 := pj0
                have y1 := pj1
                go_simp
                first | done | rfl
              case oy11 =>
                refine ask_step [.op 115 10 (Fact.eq _)] rfl 116 rfl (.inl rfl) ⟨⟨by kernel_rfl, rfl⟩, trivial⟩ 0 0 (by kernel_rfl) ?_
                dsimp only [Has, Fact.eq]
                intro e ρ w' hp hq hc hf hg hG h115
                obtain rfl : e = 0 := by omega
                have q0 := pw_cell_below (hG.out.1 rfl) kn
                refine ⟨_, w', ?_, rfl, Below.refl _ _⟩
                go_simp
                first | done | rfl
              case oy12 =>
                refine ask_val [.op 110 5 (Fact.eq _), .op 111 6 (Fact.eq _)] rfl 117 rfl (.inl rfl) ⟨⟨by kernel_rfl, rfl⟩, ⟨by kernel_rfl, rfl⟩, trivial⟩ ?_
                dsimp only [Has, Fact.eq]
                intro e ρ w' hc hf hg hG h110 h111
                have y0 := pj0
                have y1 := pj1
                have y2 := pj2
                go_simp
                first | done | rfl | (intro h; omega)
              case oy13 =>
                refine ask_store [.op 117 12 (Fact.eq _), .op 116 11 (Fact.eq _)] rfl rfl (.inl rfl) ⟨⟨by kernel_rfl, rfl⟩, ⟨by kernel_rfl, rfl⟩, trivial⟩ 0 0 (by kernel_rfl) ?_
                dsimp only [Has, Fact.eq]
                intro e ρ w' hp hq hc hf hg hG h117 h116
                obtain rfl : e = 0 := by omega
                have hR := Kd.R_below HL.out.1 (hG.out.1 rfl)
                obtain ⟨d0, f0⟩ := Kd.R_celln (enc := Value.string) (h1 := fun _ => rfl) ByteArray.empty hR (j : Int) pj0 pj2
                rw [Int.toNat_natCast] at d0 f0
                have hP := (Kd.R_putg (enc := Value.string) (h1 := fun _ => rfl) hR (j : Int) nm).1
                rw [Int.toNat_natCast] at hP
                refine ⟨w'.setCell ⟨t, j, none⟩ (.string nm), ?_, trivial, ⟨fun he => (by cases he), fun _ => ⟨(Still.of (hG.out.1 rfl)).trans (Still.set (S := fun k => k = t) _ _ _ rfl) (fun _ _ h => h), hP⟩⟩, ⟨fun _ h => h, fun _ h => h, fun _ h => h, fun _ h => h, fun _ h => h, fun _ h => h, fun _ h => h, fun _ h => h, fun _ h => h, fun _ h => h, fun _ h => h, fun _ h => h, fun _ h => h, fun _ h => h, trivial⟩⟩
                go_simp
                first | done | rfl
              case finy =>
                intro w' hG
                refine fin_eq (fin_eq (fin_eq (fin_eq (fin_eq (fin_eq (fin_eq (fin_eq (fin_eq (fin_eq (fin_eq (fin_eq (fin_eq (fin_fact (fun v13 hv13 => fin_nil (a' := ?_) ?_ ?_))))))))))))))
                rotate_left
                · simp only [Act.put, List.setIfInBounds_toArray, List.set_cons_zero, List.set_cons_succ]
                  rfl
                obtain ⟨hs9, hR9⟩ := hG.out.2 rfl
                have HNX : Aside0 (Kd.R Kd.string 9 w' Wp.heap.size (fun _ => True) (.slice (some ⟨t, 0, none⟩) (X'.f3.length + 8) cap) (mixL X'.f3 (j + 1)) ∧ Still w7 w' (fun k => k = t)) := ⟨by rw [← HMX.out]; exact hR9, HL.out.2.trans hs9 (fun _ _ h => h)⟩
                clear hG hs9 hR9
                go_wp2_with fail
                go_roundw
                case rel => exact ⟨j + 1, by first | rfl | (rw [hwj]; rfl), HJ1.out, HNX⟩
                case measure => first | exact HMJ.out | (rw [hwj]; exact HMJ.out)
            · have b2 : decide ((j : Int) < (X'.f3.length : Int)) = false := decide_eq_false (by omega)
              have b3 : (j < X'.f3.length) = False := eq_false hjl
              have b4 : decide (j < X'.f3.length) = false := decide_eq_false hjl
              have hml : (turnA X').f3.length = X'.f3.length := List.length_reverse
              have HTN : Aside0 (HandAt wr Wp.heap.size g 0 0 1 F cF (.slice (some adN) 1 cN) [(turnA X', t, cap)] ∧ wr.heap[w5.heap.size]? = some (.cells #[.int .i64 X'.f0, .string X'.f1, .string X'.f2, .slice AV X'.f3.length cV, .string X'.f4, .int .i64 X'.f5, .int .i64 X'.f6] 31 (0, 0)) ∧ Kd.C Kd.string wr AV X'.f3.length X'.f3.reverse ∧ Below W.heap.size W wr) := ⟨by
                have hs := HL.out.2
                obtain ⟨cellsT, ht9⟩ := Kd.R_typed HTW.out t rfl
                have hh := HH7.out.1
                have no : ∀ (k : Nat) (cells : Array Value) (q : Nat), q ≠ 9 → w7.heap[k]? = some (.cells cells q (0, 0)) → ¬ k = t := fun k cells q hq hk e => by
                  subst e; exact absurd rfl (blk_ne hk ht9 hq)
                have hfc : fullC (turnA X', t, cap) = fullC (X', t, cap) := by unfold fullC; simp only [hml]; rfl
                have hnc : nameC (turnA X', t, cap) = nameC (X', t, cap) := by unfold nameC; simp only [hml]
                have htb : w5.heap.size ≠ t := fun e => by have := HH7.out.2.2; omega
                refine ⟨⟨hs.blk hh.blk (no _ _ 37 (by decide) hh.blk), ?_, ?_, fun e he => ?_, rfl, hh.room⟩, hs.blk HBa.out htb, ?_, ?_⟩
                · have := R_still hh.full hs (fun k cells q hq hk => no k cells q (by have h : q = 31 := (by simpa [Kd.raw] using hq); rw [h]; decide) hk)
                  rw [List.map_cons, List.map_nil, hfc]; exact this
                · have := R_still hh.names hs (fun k cells q hq hk => no k cells q (by have h : q = 29 := (by simpa [Kd.raw] using hq); rw [h]; decide) hk)
                  rw [List.map_cons, List.map_nil, hnc]; exact this
                · rw [List.mem_singleton.1 he]
                  have h9 := HL.out.1
                  rw [show j = X'.f3.length by omega, mix_all] at h9
                  show (turnA X').f3.length + 8 ≤ cap ∧ Kd.R Kd.string 9 wr Wp.heap.size (fun _ => True) (.slice (some ⟨t, 0, none⟩) ((turnA X').f3.length + 8) cap) (twinL (turnA X').f3)
                  rw [hml]
                  exact ⟨(hh.twins _ (List.mem_singleton.2 rfl)).1, h9⟩
                · refine ⟨H7.out.2.2.2.1.1, H7.out.2.2.2.1.2.1, fun h0 => ?_⟩
                  obtain ⟨ad, e, hc⟩ := H7.out.2.2.2.1.2.2 h0
                  refine ⟨ad, e, fun k p hk => ?_⟩
                  obtain ⟨cs, h1, h2, h3⟩ := hc k p hk
                  refine ⟨cs, h1, h2, fun q u hu => ?_⟩
                  have hcell := h3 q u hu
                  have hlt := World.block_lt_of_cell? w7 _ hcell
                  have hne : (ad.add (k * Kd.string.sz + q)).block ≠ t := by rw [add_block]; have := (HVB.out ad e).1; have := HH7.out.2.2; omega
                  rw [World.cell?_of_block (hs.block _ hlt hne)]; exact hcell
                · exact HH7.out.2.1.trans (hs.below HH7.out.2.1.size (fun k hk => by
                    subst hk
                    exact Nat.le_trans (Nat.le_trans HB.out.size HWp.out.1.size) (Kd.R_base HTW.out k rfl)))⟩
              have HOT := Aside0.mk (turn_ok X' HXA.out)
              have HML := Aside0.mk hml
              have y0 : wr.cell? ⟨w5.heap.size, 0, none⟩ = some (.int .i64 X'.f0) := by rw [blk_cell HTN.out.2.1]; rfl
              have y1 : wr.cell? ⟨w5.heap.size, 1, none⟩ = some (.string X'.f1) := by rw [blk_cell HTN.out.2.1]; rfl
              have y2 : wr.cell? ⟨w5.heap.size, 2, none⟩ = some (.string X'.f2) := by rw [blk_cell HTN.out.2.1]; rfl
              have y3 : wr.cell? ⟨w5.heap.size, 3, none⟩ = some (.slice AV X'.f3.length cV) := by rw [blk_cell HTN.out.2.1]; rfl
              have y4 : wr.cell? ⟨w5.heap.size, 4, none⟩ = some (.string X'.f4) := by rw [blk_cell HTN.out.2.1]; rfl
              have y5 : wr.cell? ⟨w5.heap.size, 5, none⟩ = some (.int .i64 X'.f5) := by rw [blk_cell HTN.out.2.1]; rfl
              have y6 : wr.cell? ⟨w5.heap.size, 6, none⟩ = some (.int .i64 X'.f6) := by rw [blk_cell HTN.out.2.1]; rfl
              clear hjl hj hml HL
              go_wp2_with fail
              have hcall1 : ∀ o : Value, Aside0 (o = .tuple #[.string (printA (turnA X')).1, .int .i64 (printA (turnA X')).2]) → Calls Tryz.prog 10 #[.agg #[.int .i64 X'.f0, .string X'.f1, .string X'.f2, .slice AV X'.f3.length cV, .string X'.f4, .int .i64 X'.f5, .int .i64 X'.f6]] wr fun e w' => e = .returned o ∧ Below wr.heap.size wr w' := fun o ho => by
                have := refPrintAct_calls (turnA X') HOT.out AV cV wr (HE.out.below HTN.out.2.2.2) (by rw [HML.out]; exact HTN.out.2.2.1) (by rw [HML.out]; exact H7.out.2.2.2.2) o ho
                unfold actV at this
                rw [HML.out] at this
                exact this
              obtain ⟨o, ho⟩ : ∃ o : Value, o = .tuple #[.string (printA (turnA X')).1, .int .i64 (printA (turnA X')).2] := ⟨_, rfl⟩
              refine (hcall1 o ⟨ho⟩).mono ?_; rintro e w8 ⟨rfl, hb8⟩
              subst ho
              have HH8 : Aside0 (HandAt w8 Wp.heap.size g 0 0 1 F cF (.slice (some adN) 1 cN) [(turnA X', t, cap)] ∧ Below W.heap.size W w8) := ⟨HTN.out.1.next hb8, below_then HTN.out.2.2.2 HTN.out.2.2.2.size hb8⟩
              clear hb8 hcall1 y0 y1 y2 y4 y5 y6
              have kg2 : w8.cell? ⟨g, 2, none⟩ = some (.slice (some ⟨F, 0, none⟩) 1 cF) := by rw [blk_cell HH8.out.1.blk]; rfl
              have hrw := raw_first HH8.out.1.full
              rw [show fullC (turnA X', t, cap) = fullC (X', t, cap) by unfold fullC; simp only [HML.out]; rfl] at hrw
              have z0 : w8.cell? ⟨F, 0, none⟩ = some (.int .i64 X'.f0) := hrw 0 _ rfl
              have z1 : w8.cell? ⟨F, 1, none⟩ = some (.string X'.f1) := hrw 1 _ rfl
              have z2 : w8.cell? ⟨F, 2, none⟩ = some (.string X'.f2) := hrw 2 _ rfl
              have z3 : w8.cell? ⟨F, 3, none⟩ = some (.slice (some ⟨t, 0, none⟩) X'.f3.length cap) := hrw 3 _ rfl
              have z4 : w8.cell? ⟨F, 4, none⟩ = some (.string X'.f4) := hrw 4 _ rfl
              have z5 : w8.cell? ⟨F, 5, none⟩ = some (.int .i64 X'.f5) := hrw 5 _ rfl
              have z6 : w8.cell? ⟨F, 6, none⟩ = some (.int .i64 X'.f6) := hrw 6 _ rfl
              clear hrw
              go_wp2_with fail
              have hcall2 : ∀ o : Value, Aside0 (o = .tuple #[.string (printA (turnA X')).1, .int .i64 (printA (turnA X')).2]) → Calls Tryz.prog 11 #[.agg #[.int .i64 X'.f0, .string X'.f1, .string X'.f2, .slice (some ⟨t, 0, none⟩) X'.f3.length cap, .string X'.f4, .int .i64 X'.f5, .int .i64 X'.f6]] w8 fun e w' => e = .returned o ∧ Below w8.heap.size w8 w' := fun o ho => by
                have htw := HH8.out.1.twins _ (List.mem_singleton.2 rfl)
                have := printAct_calls (turnA X') HOT.out (some ⟨t, 0, none⟩) cap w8 (HE.out.below HH8.out.2) (twin_C htw.2).2 (Nat.le_trans (Nat.le_add_right _ 8) htw.1) o ho
                rw [HML.out] at this
                exact this
              obtain ⟨o, ho⟩ : ∃ o : Value, o = .tuple #[.string (printA (turnA X')).1, .int .i64 (printA (turnA X')).2] := ⟨_, rfl⟩
              refine (hcall2 o ⟨ho⟩).mono ?_; rintro e w9 ⟨rfl, hb9⟩
              subst ho
              have HB9 : Aside0 (Below W.heap.size W w9) := ⟨below_then HH8.out.2 HH8.out.2.size hb9⟩
              clear hb9 hcall2 kg2 z0 z1 z2 z3 z4 z5 z6
              obtain ⟨qs, hqs⟩ : ∃ qs, qs = (printA (turnA X')).1 := ⟨_, rfl⟩
              obtain ⟨qn, hqn⟩ : ∃ qn, qn = (printA (turnA X')).2 := ⟨_, rfl⟩
              rw [← hqs, ← hqn]
              clear hqs hqn
              go_wp2_with fail
              refine (num_calls12 qn w9).mono ?_; rintro e w10 ⟨rfl, hb10⟩
              have HB10 : Aside0 (Below W.heap.size W w10) := ⟨below_then HB9.out HB9.out.size hb10⟩
              clear hb10
              go_wp2_with fail
              go_roundw
              case rel => exact ⟨i + 1, by first | rfl | (rw [hwi]; rfl), HI1.out, HB10⟩
              case measure => first | exact HMS.out | (rw [hwi]; exact HMS.out)
    · have b1 : decide ((i : Int) < (acts.length : Int)) = false := decide_eq_false (by omega)
      have b2 : (i < acts.length) = False := eq_false hlt
      have b3 : decide (i < acts.length) = false := decide_eq_false hlt
      clear hi hlt
      go_wp2_with fail
      have h8 : printA (act0 8) = ((⟨#[99, 111, 108, 108, 101, 99, 116]⟩ : ByteArray), (0 : Int)) := by decide +kernel
      refine (printAct_calls (act0 8) ⟨⟨by decide, by decide⟩, Nat.zero_le _, Nat.zero_le _, (fun s hs => absurd hs List.not_mem_nil), Nat.zero_le _, Nat.zero_le _, ⟨by decide, by decide⟩, ⟨by decide, by decide⟩, Nat.zero_le _⟩ none 0 wr (HE.out.below HB.out) (C_nil _) (Nat.le_refl _) (.tuple #[.string ⟨#[99, 111, 108, 108, 101, 99, 116]⟩, .int .i64 0]) ⟨by rw [h8]⟩).mono ?_; rintro e w2 ⟨rfl, hb2⟩
      have HB2 : Aside0 (Below W.heap.size W w2) := ⟨below_then HB.out HB.out.size hb2⟩
      clear hb2 h8
      go_wp2_with fail
      refine (num_calls12 0 w2).mono ?_; rintro e w3 ⟨rfl, hb3⟩
      have HB3 : Aside0 (Below W.heap.size W w3) := ⟨below_then HB2.out HB2.out.size hb3⟩
      clear hb3
      go_wp2_with fail
      go_ret
      exact ⟨by first | rfl | (simp; done) | (simp [ByteArray.toList_eq]; done), HB3.out⟩
end Go.Proofs.YtkfjjmmpbfjhaaaGreatDoor.Tells
