/- kilnref7.s Print, walked whole: its answer by cases. Conditions: those that each theorem states. -/
import Derived.Test.YtjibdaigclgmhaaGreatDoorLexJJ
namespace Go.Proofs.YtjibdaigclgmhaaGreatDoor.LexW
open Go.RowKit Go.Proofs.YtjibdaigclgmhaaGreatDoor.Lex Go.Proofs.YtjibdaigclgmhaaGreatDoor.Facts Go.Proofs.YtjibdaigclgmhaaGreatDoor.PLexPrints Go.Proofs.YtjibdaigclgmhaaGreatDoorW.PrintWords Go.Proofs.YtjibdaigclgmhaaGreatDoorW.PrintLast Go.Proofs.YtjibdaigclgmhaaGreatDoorW.PrintMore
attribute [local go_sem] max2_int min2_int max_two min_two max_three min_three max_four min_four
set_option linter.unusedVariables false
set_option linter.unusedSimpArgs false
/-- bytes as numbers -/
def ints (l : List UInt8) : List Int := l.map fun b => (b.toNat : Int)
theorem cells_ints (l : List UInt8) : Lib.strCells (sB l) = nums .u8 (ints l) := by unfold Lib.strCells ints nums sB; simp
theorem str_ints (l : List UInt8) : strOfNums (ints l) = sB l := by
  unfold strOfNums ints sB
  congr 2
  rw [List.map_map]
  exact (List.map_congr_left (g := id) (fun b _ => by simp)).trans (List.map_id _)
theorem cells_app (a b : List UInt8) : nums .u8 (ints a) ++ nums .u8 (ints b) = nums .u8 (ints (a ++ b)) := by unfold ints nums; simp
theorem cells_str (s : ByteArray) : Lib.strCells s = nums .u8 (ints (bl s)) := by rw [← cells_ints, sB_bl]
set_option maxHeartbeats 4000000 in
set_option maxRecDepth 100000 in
theorem refPrint_main (X : List S28) (m : Nat) (hX : X.length = m + 1) (hb : m ≤ 1073741824) (z : S28) (hz : X[m]? = some z) (A : Option Addr) (c : Nat) (w : World) (hC : Kd.C k28 w A X.length X) (hc : X.length ≤ c) (hst : z.f0 = 18 ∧ bl z.f1 = [] ∧ z.f2 = 0) (E : PEnv w) (hsz : ∀ (i : Nat) x, X[i]? = some x → x.f1.size ≤ 1073741824 ∧ -9223372036854775808 ≤ x.f2 ∧ x.f2 ≤ 9223372036854775807) (hJ : ∀ i, i ≤ m → (sofar X i).length ≤ 1073741824) (o : Value) (ho : Aside0 ((∀ t ∈ (X.take m).map tk, may t = true) → o = .tuple #[.string (sB (joinW ((X.take m).map tk))), .int .i64 0])) (ho2 : Aside0 ((∃ t ∈ (X.take m).map tk, may t = false) → o = .tuple #[.string ⟨#[]⟩, .int .i64 1])) : Calls Tryz.prog 10 #[.slice A X.length c] w fun e w' => e = .returned o ∧ Below w.heap.size w w' := by
  obtain ⟨ad, rfl, e0, e1, e2, _⟩ := at_T28 hC (m : Int) (by omega) (by omega)
  have hr : rd_T28 X (m : Int) = z := by
    rw [rd_at _ m (by omega)]; exact (List.getElem?_eq_some_iff.1 hz).2
  rw [hr, Int.toNat_natCast] at e0 e1 e2
  have q0 : (z.f0 != 18) = false := by simpa using hst.1
  have q1 : z.f1.toList.isEmpty = true := by rw [ByteArray.toList_eq]; simpa using hst.2.1
  have q2 : (z.f2 != 0) = false := by simpa using hst.2.2
  obtain ⟨N, hN⟩ : ∃ N, X.length = N := ⟨_, rfl⟩
  have hw1 : wrap64 ((N : Int) - 1) = (m : Int) := by unfold wrap64; omega
  have hmN : (m : Int) < (N : Int) := by omega
  have hm0 : decide ((m : Int) < 0) = false := decide_eq_false (by omega)
  have HXN : Aside0 (X.length = m + 1) := ⟨hX⟩
  have HC0 : Aside0 (Kd.C k28 w (some ad) X.length X) := ⟨hC⟩
  have HE := Aside0.mk E
  have HSZ := Aside0.mk hsz
  have HJ := Aside0.mk hJ
  rw [hN] at hc HC0 ⊢
  clear hC hX hst E hsz hJ
  obtain ⟨i5, hi5, hz5, hs5, hb5⟩ := info_parts info5
  have HI5 : Aside0 (Tryz.prog.info? 5 = some i5 ∧ i5.zero = some (.int .u8 0) ∧ i5.size = 1 ∧ i5.bytes = 1) := ⟨hi5, hz5, hs5, hb5⟩
  clear hi5 hz5 hs5 hb5
  have HB0 : Aside0 (Below w.heap.size w w) := ⟨Below.refl _ _⟩
  have HO0 : Aside0 (w.ownsRow w.heap.size 5 1 (.slice none 0 0) 0 []) := ⟨own_nil _ _ _ _⟩
  go_enter Tryz.func10, Tryz.ntmps10
  go_wp2_with fail
  try rw [hw1]
  go_loopw [5, 6] (fun v5 v6 wr => ∃ i : Nat, v6 = .int .i64 (i : Int) ∧ i ≤ m ∧ Aside0 (wr.ownsRow w.heap.size 5 1 v5 (sofar X i).length (nums .u8 (ints (sofar X i)))) ∧ Aside0 (Below w.heap.size w wr) ∧ Aside0 (∀ j x, j < i → X[j]? = some x → may (tk x) = true)) (fun _ v6 _ => m - (intOf v6).toNat)
  case atStart => exact ⟨0, rfl, Nat.zero_le _, ⟨by rw [sofar_zero]; exact HO0.out⟩, HB0, ⟨fun j x h => absurd h (Nat.not_lt_zero _)⟩⟩
  case round =>
    obtain ⟨i, rfl, him, HO, HB, HM⟩ := hrel
    by_cases hlt : i < m
    · have hd : decide ((i : Int) < (m : Int)) = true := decide_eq_true (by omega)
      have hiN : (i : Int) < (N : Int) := by omega
      have hwi : wrap64 ((i : Int) + 1) = (i : Int) + 1 := by unfold wrap64; omega
      have HMS : Aside0 (m - (intOf (Value.int IntKind.i64 ((i : Int) + 1))).toNat < m - (intOf (Value.int IntKind.i64 (i : Int))).toNat) := ⟨by simp only [intOf]; omega⟩
      obtain ⟨x, hx⟩ : ∃ x, X[i]? = some x := ⟨_, List.getElem?_eq_getElem (by omega)⟩
      have HX0 := Aside0.mk hx
      have hxs := HSZ.out i x hx
      have HMX : Aside0 (x ∈ X.take m) := ⟨List.mem_iff_getElem?.2 ⟨i, by rw [List.getElem?_take_of_lt hlt]; exact hx⟩⟩
      have HCX : Aside0 (∀ W, Below w.heap.size w W → W.cell? (ad.add (i * 4)) = some (.int .i64 x.f0) ∧ W.cell? ⟨(ad.add (i * 4)).block, (ad.add (i * 4)).off + 1, none⟩ = some (.string x.f1) ∧ W.cell? ⟨(ad.add (i * 4)).block, (ad.add (i * 4)).off + 2, none⟩ = some (.int .i64 x.f2) ∧ W.cell? ⟨(ad.add (i * 4)).block, (ad.add (i * 4)).off + 3, none⟩ = some (.int .i64 x.f3)) := ⟨fun W hbW => by
        obtain ⟨ad', ead, x0, x1, x2, x3⟩ := at_T28 (Kd.C_below HC0.out hbW) (i : Int) (by omega) (by omega)
        cases ead
        have hr : rd_T28 X (i : Int) = x := by
          rw [rd_at _ i (by omega)]; exact (List.getElem?_eq_some_iff.1 hx).2
        rw [hr, Int.toNat_natCast] at x0 x1 x2 x3
        exact ⟨x0, x1, x2, x3⟩⟩
      obtain ⟨x0, x1, x2, x3⟩ := HCX.out wr HB.out
      obtain ⟨b, hb⟩ : ∃ b, may (tk x) = b := ⟨_, rfl⟩
      have hmy := may_calls x wr hxs.1 hxs.2.1 hxs.2.2 (HE.out.below HB.out)
      rw [hb] at hmy
      cases b with
      | false =>
        have HMB := Aside0.mk hb
        go_wp2_with (go_at_call 18; refine hmy.mono ?_; rintro e w1 ⟨rfl, hb1⟩; have HB1 := Aside0.mk (below_then HB.out HB.out.size hb1); clear hb1)
        go_ret2
        refine ⟨?_, HB1.out⟩
        rw [ho2.out ⟨tk x, List.mem_map.2 ⟨x, HMX.out, rfl⟩, HMB.out⟩]
        rfl
      | true =>
        have HMB := Aside0.mk hb
        have HSH : Aside0 (∀ W, PEnv W → Calls Tryz.prog 19 #[.agg #[.int .i64 x.f0, .string x.f1, .int .i64 x.f2, .int .i64 x.f3]] W fun e w' => e = .returned (.string (spB x)) ∧ Below W.heap.size W w') := ⟨fun W E => shown_calls x W hxs.1 hxs.2.1 hxs.2.2 E⟩
        have hJ1 := HJ.out (i + 1) (by omega)
        have HMN : Aside0 (∀ j y, j < i + 1 → X[j]? = some y → may (tk y) = true) := ⟨fun j y hj hy => by
          by_cases e : j = i
          · subst e; rw [HX0.out] at hy; cases hy; exact HMB.out
          · exact HM.out j y (by omega) hy⟩
        by_cases hi0 : i = 0
        · have hd0 : decide ((0 : Int) < (i : Int)) = false := decide_eq_false (by omega)
          have hd1 : (0 < i) = False := eq_false (by omega)
          have hd2 : decide (0 < i) = false := decide_eq_false (by omega)
          have HSO : Aside0 (nums .u8 (ints (sofar X i)) ++ Lib.strCells (spB x) = nums .u8 (ints (sofar X (i + 1))) ∧ (sofar X i).length + (spB x).size = (sofar X (i + 1)).length ∧ (sofar X i).length + (spB x).size ≤ 1073741824) := ⟨by
            subst hi0
            have hso := sofar_one X x hx
            have hsz0 : (sofar X 0).length = 0 := by rw [sofar_zero]; rfl
            have hl1 : (sofar X 1).length = (spB x).size := by rw [hso, bl_len]
            have hJ2 : (sofar X 1).length ≤ 1073741824 := hJ1
            exact ⟨by rw [cells_str, cells_app, sofar_zero, hso]; rfl, by rw [hsz0, hl1]; omega, by rw [hsz0]; omega⟩⟩
          clear hi0 hJ1 hx
          go_wp2_with (first
            | (go_at_call 18; refine hmy.mono ?_; rintro e w1 ⟨rfl, hb1⟩; have y0 := pw_cell_below hb1 x0; have y1 := pw_cell_below hb1 x1; have y2 := pw_cell_below hb1 x2; have y3 := pw_cell_below hb1 x3; replace HO := Aside0.mk (pw_own_below HO.out hb1); replace HB := Aside0.mk (below_then HB.out HB.out.size hb1); clear hb1)
            | (go_at_call 19; refine (HSH.out _ (HE.out.below HB.out)).mono ?_; rintro e w3 ⟨rfl, hb3⟩; replace HO := Aside0.mk (pw_own_below HO.out hb3); replace HB := Aside0.mk (below_then HB.out HB.out.size hb3); clear hb3)
            | (at_builtin; refine Lib.wpList_append_own_string _ rfl (.tmp 54) (.tmp 59) 46 9 rfl w.heap.size 5 i5 Tryz.underlying46 Tryz.underlying9 HI5.out.1 HI5.out.2.1 HI5.out.2.2.1 HI5.out.2.2.2 u5 (sofar X i).length _ rfl HO.out (spB x) rfl ?c63 ?c47 HB.out.size ?_; (case c63 => (have := HSO.out.2.2; unfold maxLen; omega)); (case c47 => (have := HSO.out.2.2; omega)); intro v4 w4 ho4 hg4 hn4; replace HB := Aside0.mk (HB.out.grown hg4 HB.out.size (own_base HO.out)); clear HO; rw [HSO.out.1, HSO.out.2.1] at ho4; have HO4 := Aside0.mk ho4; clear ho4 hg4 hn4))
          go_roundw
          case rel => exact ⟨i + 1, rfl, hlt, HO4, HB, HMN⟩
          case measure => exact HMS.out
        · skip
          have HSO : Aside0 ((nums .u8 (ints (sofar X i)) ++ [Value.int .u8 32] = nums .u8 (ints (sofar X i ++ [32])) ∧ (sofar X i).length + 1 = (sofar X i ++ [32]).length ∧ (sofar X i).length + 1 ≤ 1073741824) ∧ nums .u8 (ints (sofar X i ++ [32])) ++ Lib.strCells (spB x) = nums .u8 (ints (sofar X (i + 1))) ∧ (sofar X i ++ [32]).length + (spB x).size = (sofar X (i + 1)).length ∧ (sofar X i ++ [32]).length + (spB x).size ≤ 1073741824) := ⟨by
            have hso := sofar_next X i x hx (by omega)
            have hs1 : sofar X i ++ 32 :: bl (spB x) = (sofar X i ++ [32]) ++ bl (spB x) := by rw [List.append_assoc]; rfl
            have hl1 : (sofar X (i + 1)).length = (sofar X i ++ [32]).length + (spB x).size := by rw [hso, hs1]; exact List.length_append.trans (by rw [bl_len])
            have hl2 : (sofar X i ++ [32]).length = (sofar X i).length + 1 := by simp
            exact ⟨⟨(cells_app _ [32]), hl2.symm, by omega⟩, by rw [cells_str, cells_app, hso, hs1], hl1.symm, by omega⟩⟩
          have hd0 : decide ((0 : Int) < (i : Int)) = true := decide_eq_true (by omega)
          have hd1 : (0 < i) = True := eq_true (by omega)
          have hd2 : decide (0 < i) = true := decide_eq_true (by omega)
          clear hi0 hJ1 hx
          go_wp2_with (first
            | (go_at_call 18; refine hmy.mono ?_; rintro e w1 ⟨rfl, hb1⟩; have y0 := pw_cell_below hb1 x0; have y1 := pw_cell_below hb1 x1; have y2 := pw_cell_below hb1 x2; have y3 := pw_cell_below hb1 x3; replace HO := Aside0.mk (pw_own_below HO.out hb1); replace HB := Aside0.mk (below_then HB.out HB.out.size hb1); clear hb1)
            | (go_at_call 19; refine (HSH.out _ (HE.out.below HB.out)).mono ?_; rintro e w3 ⟨rfl, hb3⟩; replace HO := Aside0.mk (pw_own_below HO.out hb3); replace HB := Aside0.mk (below_then HB.out HB.out.size hb3); clear hb3)
            | (at_builtin; refine print_append_cells (w0 := w) w.heap.size rfl (.tmp 51) (.tmp 52) 46 5 (.int .u8 0) 1 1 rfl Tryz.underlying46 info5 rfl (by decide) (by decide) u5 (sofar X i).length (nums .u8 (ints (sofar X i))) [.int .u8 32] rfl rfl rfl (fun u hu => by rw [List.mem_singleton.1 hu]; rfl) HO.out HB.out HB.out.size ?c48 ?_; (case c48 => (have := HSO.out.1.2.2; omega)); intro v2 w2 ho2 hb2 hg2 hat2; replace HB := Aside0.mk hb2; clear HO; rw [HSO.out.1.1, HSO.out.1.2.1] at ho2; have HO := Aside0.mk ho2; obtain ⟨t0, t1, t2, t3⟩ := HCX.out w2 hb2; clear ho2 hb2 hg2 hat2)
            | (at_builtin; go_must (refine Lib.wpList_append_own_string _ rfl (.tmp 54) (.tmp 59) 46 9 rfl w.heap.size 5 i5 Tryz.underlying46 Tryz.underlying9 HI5.out.1 HI5.out.2.1 HI5.out.2.2.1 HI5.out.2.2.2 v2 (sofar X i ++ [32]).length _ rfl HO.out (spB x) rfl ?c63 ?c47 HB.out.size ?_); (case c63 => (have := HSO.out.2.2.2; unfold maxLen; omega)); (case c47 => (have := HSO.out.2.2.2; omega)); intro v4 w4 ho4 hg4 hn4; replace HB := Aside0.mk (HB.out.grown hg4 HB.out.size (own_base HO.out)); clear HO; rw [HSO.out.2.1, HSO.out.2.2.1] at ho4; have HO4 := Aside0.mk ho4; clear ho4 hg4 hn4))
          go_roundw
          case rel => exact ⟨i + 1, rfl, hlt, HO4, HB, HMN⟩
          case measure => exact HMS.out
    · obtain rfl : i = m := by omega
      have hd : decide ((i : Int) < (i : Int)) = false := decide_eq_false (by omega)
      have hcv := own_string (P := Tryz.prog) Tryz.underlying46 Tryz.underlying5 Tryz.underlying9 HO.out
      rw [str_ints] at hcv
      have HA : Aside0 (∀ t ∈ (X.take i).map tk, may t = true) := ⟨fun t ht => by
        obtain ⟨x, hx, rfl⟩ := List.mem_map.1 ht
        obtain ⟨j, hj⟩ := List.mem_iff_getElem?.1 hx
        have hji : j < i := by
          have := (List.getElem?_eq_some_iff.1 hj).1
          rw [List.length_take] at this
          omega
        rw [List.getElem?_take_of_lt hji] at hj
        exact HM.out j x hji hj⟩
      go_wp2_with fail
      go_ret2
      refine ⟨?_, HB.out⟩
      rw [ho.out HA.out]
      rfl
theorem refPrint_calls (X : List S28) (hB : Bd X) (A : Option Addr) (c : Nat) (w : World) (E : PEnv w) (hC : Kd.C k28 w A X.length X) (hc : X.length ≤ c) : Calls Tryz.prog 10 #[.slice A X.length c] w fun e w' => (∃ v, e = .returned v ∧ PPost X v) ∧ Below w.heap.size w w' := by
  by_cases hX : X = []
  · subst hX
    refine (refPrint_none A c w).mono fun e w' ⟨he, hb⟩ => ⟨⟨_, he, .inr ⟨fun Y z h => ?_, rfl⟩⟩, hb⟩
    have := congrArg List.length h.1
    simp at this
  · obtain ⟨Y, z, rfl⟩ : ∃ Y z, X = Y ++ [z] := ⟨X.dropLast, X.getLast hX, (List.dropLast_concat_getLast hX).symm⟩
    have hl : (Y ++ [z]).length = Y.length + 1 := by simp
    have hlen := wt_len (Y ++ [z])
    have hs := hB.sum
    have hz : (Y ++ [z])[Y.length]? = some z := by simp
    have inj : ∀ {Y2 z2}, PrintOk (Y ++ [z]) Y2 z2 → Y2 = Y ∧ z2 = z := fun {Y2 z2} h => by
      have := h.1
      obtain ⟨h1, h2⟩ := List.append_inj' this rfl
      exact ⟨h1.symm, (List.cons.inj h2).1.symm⟩
    have hsz : ∀ (i : Nat) x, (Y ++ [z])[i]? = some x → x.f1.size ≤ 1073741824 ∧ -9223372036854775808 ≤ x.f2 ∧ x.f2 ≤ 9223372036854775807 := fun i x hx => by
      have hx := List.mem_of_getElem? hx
      have h1 := wt_mem hx
      have h2 := hB.num x hx
      exact ⟨by omega, h2.1, h2.2⟩
    have hJ : ∀ i, i ≤ Y.length → (sofar (Y ++ [z]) i).length ≤ 1073741824 := fun i _ => by
      have h1 := join_len (((Y ++ [z]).take i).map fun x => bl (spB x))
      have h2 := spB_sum (X := (Y ++ [z]).take i) (fun x hx => hB.num x (List.mem_of_mem_take hx))
      have h3 := wt_take (Y ++ [z]) i
      have h4 : sofar (Y ++ [z]) i = Lib.join (((Y ++ [z]).take i).map fun x => bl (spB x)) [32] := by unfold sofar joinW; rw [List.map_map]; rfl
      rw [h4]
      omega
    by_cases hst : z.f0 = 18 ∧ bl z.f1 = [] ∧ z.f2 = 0
    · have htk : (Y ++ [z]).take Y.length = Y := by simp
      by_cases hm : ∀ t ∈ Y.map tk, may t = true
      · refine (refPrint_main (Y ++ [z]) Y.length hl (by omega) z hz A c w hC hc hst E hsz hJ (.tuple #[.string (sB (joinW (Y.map tk))), .int .i64 0]) ⟨fun _ => by rw [htk]⟩ ⟨fun ⟨t, ht, hf⟩ => ?_⟩).mono fun e w' ⟨he, hb⟩ => ⟨⟨_, he, .inl ⟨Y, z, ⟨rfl, hst.1, hst.2.1, hst.2.2, hm⟩, rfl⟩⟩, hb⟩
        rw [htk] at ht; rw [hm t ht] at hf; cases hf
      · refine (refPrint_main (Y ++ [z]) Y.length hl (by omega) z hz A c w hC hc hst E hsz hJ (.tuple #[.string ⟨#[]⟩, .int .i64 1]) ⟨fun h => ?_⟩ ⟨fun _ => rfl⟩).mono fun e w' ⟨he, hb⟩ => ⟨⟨_, he, .inr ⟨fun Y2 z2 h => ?_, rfl⟩⟩, hb⟩
        · rw [htk] at h; exact absurd h hm
        · obtain ⟨rfl, rfl⟩ := inj h
          exact hm h.2.2.2.2
    · refine (refPrint_nostop (Y ++ [z]) Y.length hl (by omega) z hz A c w hC hc hst).mono fun e w' ⟨he, hb⟩ => ⟨⟨_, he, .inr ⟨fun Y2 z2 h => ?_, rfl⟩⟩, hb⟩
      obtain ⟨rfl, rfl⟩ := inj h
      exact hst ⟨h.2.1, h.2.2.1, h.2.2.2.1⟩
end Go.Proofs.YtjibdaigclgmhaaGreatDoor.LexW
