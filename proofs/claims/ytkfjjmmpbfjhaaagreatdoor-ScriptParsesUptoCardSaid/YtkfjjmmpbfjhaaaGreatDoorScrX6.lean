/- kilnref24.Parse, walked. Conditions: those that each theorem states. -/
import Derived.Test.YtkfjjmmpbfjhaaaGreatDoorScrX4
namespace Go.Proofs.YtkfjjmmpbfjhaaaGreatDoor.Tells
open Go.RowKit Go.Proofs.YtkfjjmmpbfjhaaaGreatDoor.Facts Go.Proofs.YtkfjjmmpbfjhaaaGreatDoor.PScriptActs Go.Proofs.YtkfjjmmpbfjhaaaGreatDoorW.PrintWords Go.Proofs.YtkfjjmmpbfjhaaaGreatDoorW.PrintLast Go.Proofs.YtkfjjmmpbfjhaaaGreatDoorW.PrintMore
attribute [local go_sem] max2_int min2_int max_two min_two max_three min_three max_four min_four
set_option linter.unusedVariables false
set_option linter.unusedSimpArgs false
theorem info31s : (Tryz.prog.info? 31).map (·.size) = some 7 := by kernel_rfl
section
variable {ops : Array Oper} {rest : List Oper} {o : Oper} {a : Go.Act} {Q : Exit → Go.Act → World → Prop}
/-- append of an act, behind 'at_builtin' -/
theorem row_app (W : World) (b : Nat) (hgd : o.guard = none) (s x : Operand) (ho : o.op = .call { callee := .builtin .append, args := #[s, x], argTypes := #[22, 22] }) (v : Value) (xs : List S31) (cs : List Value) (okv okp : Nat → Prop) (hap : ∀ k, okp k → ¬ okv k) (hs : a.eval s = v) (hx : a.eval x = .slice (some ⟨W.heap.size, 0, none⟩) 1 1) (HO : Kd.S k31 31 (W.alloc (.cells cs.toArray 31)) b okv v xs) (hlen : cs.length = 7) (hone : ∀ u ∈ cs, u.oneCell' = true) (hbase : b ≤ W.heap.size) (hl : xs.length ≤ 1073741824)
    (h : ∀ v1 w1, Still W w1 (fun k => b ≤ k) → (∃ A c1, v1 = .slice A (xs.length + 1) c1) → (∀ p, k31.M (W.alloc (.cells cs.toArray 31)) b okp p cs → Kd.S k31 31 w1 b (fun _ => True) v1 (xs ++ [p])) → wpList Tryz.prog ops Q rest (a.put o.dst v1) w1) : wpList Tryz.prog ops Q (o :: rest) a (W.alloc (.cells cs.toArray 31)) := by
  have hbW : Below W.heap.size W (W.alloc (.cells cs.toArray 31)) := below_alloc (Below.refl _ _) _
  obtain ⟨v1, w1, hr, hb1, hb2, hb3, hb4⟩ := run_append_row (W.alloc (.cells cs.toArray 31)) b v xs cs ⟨W.heap.size, 0, none⟩ 1 o.type okv okp hap HO (fun j u hu => by rw [add_plain, blk_cell (blk_new W _) j]; simpa using hu) hlen hone (Nat.le_trans hbase hbW.size) hl
  refine wpList_plain hgd fun K hK' => ?_
  unfold Oper.wp
  simp [execOp, ho, resolve, invoke, builtin, hs, hx, hr, Result.andThen]
  exact hK' _ _ (h v1 w1 ((Still.of (S := fun k => b ≤ k) hbW).trans (Still.grown hb1 (S := fun k => b ≤ k) (fun k hk => hb2 k hk)) (fun _ _ h => h)) hb3 hb4)
end
theorem store7 {wr : World} {G : Nat} {c2 : Array Value} (h : wr.heap[G]? = some (.cells c2 31 (0, 0))) (hc : c2.size = 7) (v0 v1 v2 v3 v4 v5 v6 : Value) (h0 : v0.oneCell' = true) (h1 : v1.oneCell' = true) (h2 : v2.oneCell' = true) (h3 : v3.oneCell' = true) (h4 : v4.oneCell' = true) (h5 : v5.oneCell' = true) (h6 : v6.oneCell' = true) (hcs : (Value.agg #[v0, v1, v2, v3, v4, v5, v6]).cells.toList = [v0, v1, v2, v3, v4, v5, v6]) :
    ∃ w1, (Instr.storeAt 31 (.pointer (some ⟨G, 0, none⟩)) (.agg #[v0, v1, v2, v3, v4, v5, v6])).run Tryz.prog wr = .ok () w1 ∧ Wrote wr G (.cells #[v0, v1, v2, v3, v4, v5, v6] 31 (0, 0)) w1 := by
  refine ⟨_, run_store_run 31 _ [v0, v1, v2, v3, v4, v5, v6] h hcs info31s (by rw [hc]; exact Nat.le_refl _) (by intro q hq; simp at hq; rcases hq with rfl | rfl | rfl | rfl | rfl | rfl | rfl <;> assumption), ?_⟩
  obtain ⟨z0, z1, z2, z3, z4, z5, z6, rfl⟩ : ∃ z0 z1 z2 z3 z4 z5 z6, c2 = #[z0, z1, z2, z3, z4, z5, z6] := by
    rcases c2 with ⟨l⟩
    rcases l with _ | ⟨a, _ | ⟨b, _ | ⟨c, _ | ⟨d, _ | ⟨e, _ | ⟨f, _ | ⟨g, _ | ⟨i, l⟩⟩⟩⟩⟩⟩⟩⟩ <;> simp at hc
    exact ⟨a, b, c, d, e, f, g, rfl⟩
  have a0 : Wrote wr G (.cells #[v0, z1, z2, z3, z4, z5, z6] 31 (0, 0)) (wr.setCell ⟨G, 0, none⟩ v0) := Wrote.set (i := 0) (Below.refl _ _) h v0
  have a1 := a0.again (Wrote.set (i := 1) (Below.refl _ _) a0.at_ v1)
  have a2 := a1.again (Wrote.set (i := 2) (Below.refl _ _) a1.at_ v2)
  have a3 := a2.again (Wrote.set (i := 3) (Below.refl _ _) a2.at_ v3)
  have a4 := a3.again (Wrote.set (i := 4) (Below.refl _ _) a3.at_ v4)
  have a5 := a4.again (Wrote.set (i := 5) (Below.refl _ _) a4.at_ v5)
  exact a5.again (Wrote.set (i := 6) (Below.refl _ _) a5.at_ v6)
/-- where the document's Parse stands -/
structure RfAt (w : World) (G : Nat) (D : List ByteArray) (v5 : Value) (p0 p1 : Int) (v : Value) (acts : List S31) (wr : World) : Prop where
  below : Below w.heap.size w wr
  two : ∃ c2 : Array Value, c2.size = 3 ∧ wr.heap[w.heap.size]? = some (.cells c2 24 (0, 0))
  low : w.heap.size < G
  six : wr.heap[G]? = some (.cells #[.int .i64 p0, .int .i64 p1, v] 24 (0, 0))
  lines : Kd.R Kd.string 9 wr w.heap.size (fun k => k < G ∧ k ≠ w.heap.size) v5 D
  acts : Kd.S k31 31 wr (G + 1) (fun _ => True) v acts
/-- nothing but the play and what lies behind it was written -/
theorem RfAt.move {w : World} {G : Nat} {D : List ByteArray} {v5 : Value} {p0 p1 q0 q1 : Int} {v v' : Value} {acts acts' : List S31} {wr w2 : World} (h : RfAt w G D v5 p0 p1 v acts wr) (hs : Still wr w2 (fun k => G ≤ k)) (h6 : w2.heap[G]? = some (.cells #[.int .i64 q0, .int .i64 q1, v'] 24 (0, 0))) (hS : Kd.S k31 31 w2 (G + 1) (fun _ => True) v' acts') : RfAt w G D v5 q0 q1 v' acts' w2 := by
  obtain ⟨c2, hc2, hb2⟩ := h.two
  have hlow := h.low
  refine ⟨h.below.trans (hs.below h.below.size (fun k hk => by omega)), ⟨c2, hc2, hs.blk hb2 (by omega)⟩, hlow, h6, ?_, hS⟩
  exact Kd.R_mono (Kd.R_move (Kd.R_bound h.lines) (fun k hk => hs.block k hk.2.2.1 (by have := hk.1.1; omega))) (fun k hk => hk.1)
theorem RfAt.next {w : World} {G : Nat} {D : List ByteArray} {v5 : Value} {p0 p1 : Int} {v : Value} {acts : List S31} {wr w2 : World} (h : RfAt w G D v5 p0 p1 v acts wr) (hb : Below wr.heap.size wr w2) : RfAt w G D v5 p0 p1 v acts w2 :=
  h.move (Still.of hb) ((hb.block _ (blk_lt h.six)).trans h.six) (Kd.S_below h.acts hb)
/-- the list of acts, grown and laid -/
theorem RfAt.grow {w : World} {G : Nat} {D : List ByteArray} {v5 : Value} {p0 p1 : Int} {v v1 : Value} {acts : List S31} {wr w7 : World} (h : RfAt w G D v5 p0 p1 v acts wr) (hs : Still wr w7 (fun k => G + 1 ≤ k)) :
    w7.heap[G]? = some (.cells #[.int .i64 p0, .int .i64 p1, v] 24 (0, 0)) ∧ Below w.heap.size w (w7.setCell ⟨G, 2, none⟩ v1) ∧ (∃ c2 : Array Value, c2.size = 3 ∧ (w7.setCell ⟨G, 2, none⟩ v1).heap[w.heap.size]? = some (.cells c2 24 (0, 0))) ∧ (∀ acts', Kd.S k31 31 w7 (G + 1) (fun _ => True) v1 acts' → RfAt w G D v5 p0 p1 v1 acts' (w7.setCell ⟨G, 2, none⟩ v1)) := by
  have hlow := h.low
  have hb6 := hs.blk h.six (by omega)
  have hs2 : Still wr (w7.setCell ⟨G, 2, none⟩ v1) (fun k => G ≤ k) := (hs.mono (fun k (hk : G + 1 ≤ k) => (by omega : G ≤ k))).trans (Still.set (S := fun k => G ≤ k) G 2 v1 (Nat.le_refl G)) (fun _ _ h => h)
  obtain ⟨c2, hc2, hb2⟩ := h.two
  refine ⟨hb6, h.below.trans (hs2.below h.below.size (fun k hk => by omega)), ⟨c2, hc2, hs2.blk hb2 (by omega)⟩, fun acts' hS => h.move hs2 (blk_set hb6 2 v1) ?_⟩
  exact Kd.S_mono (Kd.S_step (Kd.S_bound hS) (fun k hk _ => Below.heap_setCell w7 _ _ k (show k ≠ G by have := hk.2.1; omega))) (fun _ _ => trivial)
theorem RfAt.keep {w : World} {G g : Nat} {D : List ByteArray} {v5 : Value} {p0 p1 : Int} {v : Value} {acts : List S31} {wr w2 : World} {o : Obj} (h : RfAt w G D v5 p0 p1 v acts wr) (hw : Wrote wr g o w2) (hg : G < g) (hS : Kd.S k31 31 wr (G + 1) (fun k => k < g) v acts) : RfAt w G D v5 p0 p1 v acts w2 :=
  h.move ⟨hw.os, hw.tape, hw.output, hw.size, fun k hk hn => hw.block k hk (fun e => hn (by omega))⟩ ((hw.block _ (blk_lt h.six) (by omega)).trans h.six) (Kd.S_mono (Kd.S_step hS (fun k hk hlt => hw.block k hlt (by omega))) (fun _ _ => trivial))
/-- what the document's Parse answers -/
def RefParsed (s : ByteArray) (w : World) (e : Ending) (w' : World) : Prop := ∃ v, e = .returned (.tuple #[.agg #[.int .i64 (parseP (bl s)).1.1, .int .i64 (parseP (bl s)).1.2.1, v], .int .i64 (parseP (bl s)).2.1, .int .i64 (parseP (bl s)).2.2]) ∧ Kd.S k31 31 w' w.heap.size (fun _ => True) v (parseP (bl s)).1.2.2 ∧ Below w.heap.size w w'
/-- the empty play, laid -/
theorem ref_end {w wr : World} (hb : Below w.heap.size w wr) (h2 : ∃ c2 : Array Value, c2.size = 3 ∧ wr.heap[w.heap.size]? = some (.cells c2 24 (0, 0))) :
    ∃ w2, (Instr.storeAt 24 (.pointer (some ⟨w.heap.size, 0, none⟩)) (.agg #[.int .i64 0, .int .i64 0, .slice none 0 0])).run Tryz.prog wr = .ok () w2 ∧ w2.heap[w.heap.size]? = some (.cells #[.int .i64 0, .int .i64 0, .slice none 0 0] 24 (0, 0)) ∧ Below w.heap.size w w2 := by
  obtain ⟨c2, hc2, hb2⟩ := h2
  obtain ⟨w2, hst, hW2⟩ := store3 hb2 hc2 (.int .i64 0) (.int .i64 0) (.slice none 0 0) rfl rfl rfl rfl
  exact ⟨w2, hst, hW2.at_, hb.trans (hW2.below (Nat.le_refl _) hb.size)⟩
theorem ref_post {s : ByteArray} {w w2 : World} {l c : Int} (hp : parseP (bl s) = ((0, 0, []), l, c)) (hb : Below w.heap.size w w2) :
    RefParsed s w (.returned (.tuple #[.agg #[.int .i64 0, .int .i64 0, .slice none 0 0], .int .i64 l, .int .i64 c])) w2 := by
  refine ⟨.slice none 0 0, ?_, ?_, hb⟩
  · rw [hp]
  · rw [hp]; exact Kd.S_nil _ _ _ _ _
set_option maxHeartbeats 8000000 in
set_option maxRecDepth 100000 in
theorem refParse_calls (s : ByteArray) (hs : s.size ≤ 1048576) (w : World) : Calls Tryz.prog 19 #[.string s] w (RefParsed s w) := by
  have HSS := Aside0.mk hs
  go_enter Tryz.func19, Tryz.ntmps19
  go_wp2_with fail
  refine (lines_calls s hs _).mono ?_
  rintro e w1 ⟨v5, D, rfl, hD, hDl, hDn, hb1⟩
  have hDe : D = (linesOf (bl s) []).map mkB := of_bl hDl
  obtain ⟨G, hG⟩ : ∃ g, g = w1.heap.size := ⟨_, rfl⟩
  have HP : Aside0 (RfAt w G D v5 0 0 (.slice none 0 0) [] (w1.alloc (.cells #[.int .i64 0, .int .i64 0, .slice none 0 0] 24 (0, 0)))) := ⟨by
    subst hG
    have k1 := blk_new w (.cells #[.int .i64 0, .int .i64 0, .slice none 0 0] 24)
    have hsz := blk_lt k1
    have hbA : Below w.heap.size w w1 := below_then (below_alloc (Below.refl _ _) _) (below_alloc (Below.refl _ _) _).size hb1
    have hba : Below w1.heap.size w1 (w1.alloc (.cells #[.int .i64 0, .int .i64 0, .slice none 0 0] 24 (0, 0))) := below_alloc (Below.refl _ _) _
    have k2 := (hb1.block _ hsz).trans k1
    refine ⟨below_then hbA hbA.size hba, ⟨_, rfl, (hba.block _ (blk_lt k2)).trans k2⟩, Nat.lt_of_lt_of_le hsz hb1.size, blk_new w1 _, ?_, Kd.S_nil _ _ _ _ _⟩
    refine Kd.R_lower (Kd.R_below (Kd.R_mono (Kd.R_bound hD) (fun k hk => ⟨hk.2.2.1, ?_⟩)) hba) (by simp)
    have := hk.2.1
    simp at this
    omega⟩
  have HDE := Aside0.mk hDe
  have HDN := Aside0.mk hDn
  have HG := Aside0.mk hG
  clear hD hDl hDe hDn hb1
  go_wp2_with fail
  rw [← hG]
  clear hG
  go_loopw [7, 8] (fun v7 v8 wr => ∃ (i : Nat) (st : StP) (v : Value), v7 = .int .i64 (st.said : Int) ∧ v8 = .int .i64 (i : Int) ∧ i ≤ D.length ∧ st.said ≤ 20000 ∧ Aside0 (goP ((linesOf (bl s) []).drop i) i st = parseP (bl s)) ∧ Aside0 (st.acts.length ≤ st.said ∧ (st.said = 0 → st.acts = [])) ∧ Aside0 (RfAt w G D v5 st.p0 st.p1 v st.acts wr)) (fun _ i _ => D.length - (intOf i).toNat)
  case atStart => exact ⟨0, ⟨0, 0, 0, []⟩, .slice none 0 0, rfl, rfl, Nat.zero_le _, Nat.zero_le _, ⟨rfl⟩, ⟨⟨Nat.le_refl _, fun _ => rfl⟩⟩, HP⟩
  case round =>
    clear HP
    obtain ⟨i, st, v, rfl, rfl, hi, hsd, HGO, HAC, HPL⟩ := hrel
    obtain ⟨A5, c5, rfl⟩ := Kd.R_slice HPL.out.lines
    have HC5 := Aside0.mk (Kd.R_reads' HPL.out.lines).2
    by_cases hlt : i < D.length
    · have b1 : decide ((i : Int) < (D.length : Int)) = true := decide_eq_true (by omega)
      have p0 : (0 : Int) ≤ (i : Int) := by omega
      have p1 : (i : Int) < (D.length : Int) := by omega
      obtain ⟨ad, rfl, hcell⟩ := Kd.at_string HC5.out.2 (i : Int) p0 p1
      rw [Int.toNat_natCast] at hcell
      obtain ⟨x, hx⟩ : ∃ x, D[i]? = some x := ⟨_, List.getElem?_eq_getElem hlt⟩
      have hrd : rdOf ByteArray.empty D (i : Int) = x := by unfold rdOf; rw [Int.toNat_natCast, List.getD_eq_getElem?_getD, hx]; rfl
      rw [hrd] at hcell
      have HGO2 : Aside0 ((if (stepP (bl x) st).1 = 0 then goP ((linesOf (bl s) []).drop (i + 1)) (i + 1) (stepP (bl x) st).2 else ((0, 0, []), (i + 1 : Int), (stepP (bl x) st).1)) = parseP (bl s)) := ⟨by
        rw [← HGO.out]
        have hx2 : (linesOf (bl s) [])[i]? = some (bl x) := by
          rw [HDE.out, List.getElem?_map] at hx
          cases hq : (linesOf (bl s) [])[i]? with
          | none => rw [hq] at hx; cases hx
          | some l => rw [hq] at hx; injection hx with hx; rw [← hx, bl_mk]
        have hil : i < (linesOf (bl s) []).length := by
          rcases Nat.lt_or_ge i (linesOf (bl s) []).length with h | h
          · exact h
          · rw [List.getElem?_eq_none h] at hx2; cases hx2
        have hd : (linesOf (bl s) []).drop i = bl x :: (linesOf (bl s) []).drop (i + 1) := by
          rw [List.drop_eq_getElem_cons hil]
          congr 1
          rw [List.getElem?_eq_getElem hil] at hx2
          injection hx2
        rw [hd]; rfl⟩
      have HERR : Aside0 (∀ c : Int, (stepP (bl x) st).1 = c → c ≠ 0 → parseP (bl s) = ((0, 0, []), (i : Int) + 1, c)) := ⟨fun c h1 h2 => by rw [← HGO2.out, h1, if_neg h2]⟩
      have HMS : Aside0 (D.length - (intOf (Value.int IntKind.i64 ((i : Int) + 1))).toNat < D.length - (intOf (Value.int IntKind.i64 (i : Int))).toNat) := ⟨meas_step _ _ hlt⟩
      have HI1 : Aside0 (i + 1 ≤ D.length) := ⟨hlt⟩
      have hw8 : wrap64 ((i : Int) + 1) = (i : Int) + 1 := wrap_next i (by have := HDN.out; omega)
      clear hrd hx HGO
      by_cases c1 : 262144 < x.size
      · have b2 : decide ((x.size : Int) > 262144) = true := decide_eq_true (by omega)
        have HPP := Aside0.mk (HERR.out 241 (by unfold stepP; rw [if_pos (by rw [bl_len]; exact c1)]) (by decide))
        obtain ⟨wE, hst, h1, h2⟩ := ref_end (wr := wr) HPL.out.below HPL.out.two
        have HST := Aside0.mk hst
        have HEN := Aside0.mk (And.intro h1 h2)
        clear hst h1 h2 
        go_wp2_with (first | refine run_event rfl rfl rfl rfl rfl HST.out ?_)
        refine bodyPost_ret (results_ctt rfl _ _ w.heap.size 24 #[.int .i64 0, .int .i64 0, .slice none 0 0] (0, 0) _ rfl HEN.out.1 Tryz.underlying24 rfl (by kernel_rfl)) rfl ?_
        show RefParsed s w (.returned (.tuple #[_, .int .i64 (wrap64 ((i : Int) + 1)), _])) _
        rw [hw8]
        exact ref_post HPP.out HEN.out.2
      · have b2 : decide ((x.size : Int) > 262144) = false := decide_eq_false (by omega)
        have HXS : Aside0 (x.size ≤ 262144) := ⟨by omega⟩
        by_cases c2 : x.size = 0
        · have hx0 : x = ⟨#[]⟩ := by
            apply ByteArray.ext
            exact Array.eq_empty_of_size_eq_zero c2
          subst hx0
          have HGO3 : Aside0 (goP ((linesOf (bl s) []).drop (i + 1)) (i + 1) st = parseP (bl s)) := ⟨HGO2.out⟩
          clear HGO2 HERR
          go_wp2_with fail
          go_roundw
          case rel => exact ⟨i + 1, st, v, rfl, by first | rfl | (rw [hw8]; rfl), HI1.out, hsd, HGO3, HAC, HPL⟩
          case measure => first | exact HMS.out | (rw [hw8]; exact HMS.out)
        · have hxp : 0 < x.size := by omega
          have hxe : (x = ⟨#[]⟩) = False := eq_false (fun h => c2 (by rw [h]; rfl))
          have hbt := bt_is x 0 hxp
          have hne : (x.toList = []) = False := eq_false (fun h => by
            have h2 := bl_len x
            rw [ByteArray.toList_eq] at h
            rw [show bl x = [] from h] at h2
            simp at h2; omega)
          have hne3 : (x.toList == []) = false := by rw [beq_eq_false_iff_ne]; intro h; rw [h] at hne; exact hne.mp rfl
          have hbx : bl x = x[0]'hxp :: (bl x).drop 1 := by have := bl_drop x 0 hxp; rwa [List.drop_zero] at this
          have HST : Aside0 (stepP (bl x) st = if x[0]'hxp = 35 then (0, st) else if st.said = 20000 then (246, st) else if st.said = 0 then (codeRoom (wordsOf (bl x)), ⟨1, numN (bl ((wordsOf (bl x)).getD 1 ByteArray.empty)), numN (bl ((wordsOf (bl x)).getD 2 ByteArray.empty)), st.acts⟩)
              else if kindR ((wordsOf (bl x)).getD 0 ByteArray.empty) = 0 then (242, st)
              else (codeR (kindR ((wordsOf (bl x)).getD 0 ByteArray.empty)) (wordsOf (bl x)).tail, ⟨st.said + 1, st.p0, st.p1, st.acts ++ [actR (kindR ((wordsOf (bl x)).getD 0 ByteArray.empty)) (wordsOf (bl x)).tail]⟩)) := ⟨by
            unfold stepP
            rw [if_neg (show ¬ 262144 < (bl x).length by rw [bl_len]; exact c1)]
            by_cases h : x[0]'hxp = 35
            · rw [if_pos h, if_pos (.inr (by rw [hbx, h]; rfl))]
            · rw [if_neg h, if_neg]
              rintro (h2 | h2)
              · rw [hbx] at h2; cases h2
              · rw [hbx] at h2; injection h2 with h2; exact h h2⟩
          clear hbx
          by_cases c3 : x[0]'hxp = 35
          · have hx35b : ((((x[0]'hxp).toNat : Nat) : Int) = 35) = True := eq_true (by rw [c3]; rfl)
            have hx35q : ((((x[0]'hxp).toNat : Nat) : Int) == 35) = true := by rw [c3]; rfl
            have hx35d : decide ((((x[0]'hxp).toNat : Nat) : Int) = 35) = true := by rw [c3]; rfl
            have HGO3 : Aside0 (goP ((linesOf (bl s) []).drop (i + 1)) (i + 1) st = parseP (bl s)) := ⟨by rw [← HGO2.out, HST.out, if_pos c3]; rfl⟩
            clear c3 HST HGO2 HERR
            go_wp2_with fail
            all_goals go_roundw
            all_goals first
              | exact ⟨i + 1, st, v, rfl, by first | rfl | (rw [hw8]; rfl), HI1.out, hsd, HGO3, HAC, HPL⟩
              | exact HMS.out
              | (rw [hw8]; exact HMS.out)
          · have hx35 : ∀ h : (0 : Int).toNat < x.size, (((x[(0 : Int).toNat]'h).toNat : Nat) : Int) = 35 → False := fun _ h => c3 (by
              apply UInt8.toNat_inj.1
              show (x[0]'hxp).toNat = 35
              have h' : (((x[0]'hxp).toNat : Nat) : Int) = 35 := h
              omega)
            have hx35b : ((((x[0]'hxp).toNat : Nat) : Int) = 35) = False := eq_false (fun h => hx35 hxp h)
            have hx35q : ((((x[0]'hxp).toNat : Nat) : Int) == 35) = false := by rw [beq_eq_false_iff_ne]; exact fun h => hx35 hxp h
            have hx35d : decide ((((x[0]'hxp).toNat : Nat) : Int) = 35) = false := decide_eq_false (fun h => hx35 hxp h)
            clear hx35
            have HSTP : Aside0 (stepP (bl x) st = if st.said = 20000 then (246, st) else if st.said = 0 then (codeRoom (wordsOf (bl x)), ⟨1, numN (bl ((wordsOf (bl x)).getD 1 ByteArray.empty)), numN (bl ((wordsOf (bl x)).getD 2 ByteArray.empty)), st.acts⟩)
              else if kindR ((wordsOf (bl x)).getD 0 ByteArray.empty) = 0 then (242, st)
              else (codeR (kindR ((wordsOf (bl x)).getD 0 ByteArray.empty)) (wordsOf (bl x)).tail, ⟨st.said + 1, st.p0, st.p1, st.acts ++ [actR (kindR ((wordsOf (bl x)).getD 0 ByteArray.empty)) (wordsOf (bl x)).tail]⟩)) := ⟨by rw [HST.out, if_neg c3]⟩
            have hw7 : wrap64 ((st.said : Int) + 1) = (st.said : Int) + 1 := wrap_next st.said (by omega)
            clear c3 HST
            by_cases c4 : st.said = 20000
            · have b4 := decide_eq_true (show (st.said : Int) + 1 > 20000 by omega)
              have b4p := show (20000 : Int) < (st.said : Int) + 1 by omega
              have HPP := Aside0.mk (HERR.out 246 (by rw [HSTP.out, if_pos c4]) (by decide))
              obtain ⟨wE, hst, h1, h2⟩ := ref_end (wr := wr) HPL.out.below HPL.out.two
              have HST := Aside0.mk hst
              have HEN := Aside0.mk (And.intro h1 h2)
              clear hst h1 h2 c4 HSTP HGO2 HERR
              go_wp2_with (first | refine run_event rfl rfl rfl rfl rfl HST.out ?_)
              refine bodyPost_ret (results_ctt rfl _ _ w.heap.size 24 #[.int .i64 0, .int .i64 0, .slice none 0 0] (0, 0) _ rfl HEN.out.1 Tryz.underlying24 rfl (by kernel_rfl)) rfl ?_
              show RefParsed s w (.returned (.tuple #[_, .int .i64 (wrap64 ((i : Int) + 1)), _])) _
              rw [hw8]
              exact ref_post HPP.out HEN.out.2
            · have b4 := decide_eq_false (show ¬ ((st.said : Int) + 1 > 20000) by omega)
              have b4p : ¬ ((20000 : Int) < (st.said : Int) + 1) := by omega
              go_wp2_with fail
              refine (kilnref24_Words.calls (x.size + 1) x (wordsOf (bl x)) wr (words_is x (by have := HXS.out; omega))).mono ?_
              rintro e w2 ⟨v9, rfl, hR9, hb9⟩
              obtain ⟨A9, c9, rfl, hc9, hC9⟩ := Kd.R_reads hR9
              have hWL := wordsOf_len (bl x)
              have hbl := bl_len x
              have H9 := Aside0.mk (And.intro hC9 (And.intro hc9 (And.intro (HPL.out.next hb9) (show (wordsOf (bl x)).length ≤ 262145 ∧ ∀ y ∈ wordsOf (bl x), y.size ≤ 262144 from ⟨by have := HXS.out; omega, fun y hy => by have := hWL.2 y hy; have := HXS.out; omega⟩))))
              clear hR9 hb9 hc9 hC9 hWL hbl
              obtain ⟨L, hL⟩ : ∃ L, L = (wordsOf (bl x)).length := ⟨_, rfl⟩
              have HLL := Aside0.mk hL
              have hL0 : 0 < L := by rw [hL]; exact wordsOf_pos _
              rw [← hL]
              clear hL
              by_cases hs0 : st.said = 0
              · have HS5 : Aside0 (stepP (bl x) st = (codeRoom (wordsOf (bl x)), ⟨1, numN (bl ((wordsOf (bl x)).getD 1 ByteArray.empty)), numN (bl ((wordsOf (bl x)).getD 2 ByteArray.empty)), st.acts⟩)) := ⟨by rw [HSTP.out, if_neg c4, if_pos hs0]⟩
                have b5 : ((st.said : Int) + 1 == 1) = true := by rw [beq_iff_eq]; omega
                have b5d : decide ((st.said : Int) + 1 = 1) = true := decide_eq_true (by omega)
                have b5p : ((st.said : Int) + 1 = 1) = True := eq_true (by omega)
                have HAE : Aside0 (st.acts = []) := ⟨HAC.out.2 hs0⟩
                have H5 : Aside0 ((st.said : Int) + 1 = ((1 : Nat) : Int)) := ⟨by omega⟩
                obtain ⟨K, r1, r2, hrf, hr0⟩ := room_f (wordsOf (bl x)) (wordsOf_pos _) (fun y hy => H9.out.2.2.2.2 y hy)
                obtain ⟨kc, hkc⟩ : ∃ kc, kc = codeRoom (wordsOf (bl x)) := ⟨_, rfl⟩
                have hcall := kilnref24_room.calls K A9 c9 (wordsOf (bl x)) r1 r2 [] (codeRoom (wordsOf (bl x))) w2 H9.out.1 H9.out.2.1 hrf
                rw [← hkc, ← HLL.out] at hcall
                have HKC := Aside0.mk hkc
                have HR0 := Aside0.mk hr0
                clear hkc hrf hr0 hs0
                go_wp2_with fail
                refine hcall.mono ?_
                rintro e w3 ⟨v3, rfl, hS3, hb3⟩
                clear hcall
                obtain ⟨A3, c3, rfl⟩ := Kd.R_slice (Kd.S_R hS3)
                have hRF3 := H9.out.2.2.1.next hb3
                obtain ⟨w4, hst, hW4⟩ := store3 hRF3.six rfl (.int .i64 r1) (.int .i64 r2) (.slice A3 0 c3) rfl rfl rfl rfl
                have HRF4 : Aside0 (RfAt w G D (.slice (some ad) D.length c5) r1 r2 (.slice A3 0 c3) [] w4) := ⟨by
                  have hlt2 : G + 1 ≤ w2.heap.size := blk_lt H9.out.2.2.1.six
                  have hs4 : Still w3 w4 (fun k => G ≤ k) := ⟨hW4.os, hW4.tape, hW4.output, hW4.size, fun k hk hn => hW4.block k hk (fun e => hn (by omega))⟩
                  refine hRF3.move hs4 hW4.at_ ?_
                  exact Kd.S_lower (Kd.S_mono (Kd.S_step (Kd.S_bound hS3) (fun k hk hlt => hW4.block k hlt (by have := hk.2.1; omega))) (fun _ _ => trivial)) hlt2⟩
                have HS6 := Aside0.mk hst
                clear hst hW4 hS3 hb3 hRF3
                by_cases c6 : kc = 0
                · have hq := HR0.out (by rw [← HKC.out, c6])
                  have HRF5 : Aside0 (RfAt w G D (.slice (some ad) D.length c5) (numN (bl ((wordsOf (bl x)).getD 1 ByteArray.empty))) (numN (bl ((wordsOf (bl x)).getD 2 ByteArray.empty))) (.slice A3 0 c3) [] w4) := ⟨by have := HRF4.out; rw [hq.1, hq.2] at this; exact this⟩
                  have HGO3 : Aside0 (goP ((linesOf (bl s) []).drop (i + 1)) (i + 1) ⟨1, numN (bl ((wordsOf (bl x)).getD 1 ByteArray.empty)), numN (bl ((wordsOf (bl x)).getD 2 ByteArray.empty)), []⟩ = parseP (bl s)) := ⟨by rw [← HGO2.out, HS5.out, if_pos (by rw [← HKC.out, c6]), HAE.out]⟩
                  subst c6
                  clear HKC HR0 HS5 HGO2 HERR HRF4 hq
                  go_wp2_with (refine run_event rfl rfl rfl rfl rfl HS6.out ?_)
                  go_roundw
                  case rel => exact ⟨i + 1, ⟨1, numN (bl ((wordsOf (bl x)).getD 1 ByteArray.empty)), numN (bl ((wordsOf (bl x)).getD 2 ByteArray.empty)), []⟩, _, by first | rfl | rw [H5.out], by first | rfl | (rw [hw8]; rfl), HI1.out, (show (1 : Nat) ≤ 20000 by decide), HGO3, ⟨⟨Nat.zero_le _, fun _ => rfl⟩⟩, HRF5⟩
                  case measure => first | exact HMS.out | (rw [hw8]; exact HMS.out)
                · have hkn : (kc != 0) = true := by rw [bne_iff_ne]; exact c6
                  have hkd : decide (kc = 0) = false := decide_eq_false c6
                  have hkp : (kc = 0) = False := eq_false c6
                  have HPP := Aside0.mk (HERR.out kc (by rw [HS5.out, HKC.out]) c6)
                  obtain ⟨wE, hst, h1, h2⟩ := ref_end (wr := w4) HRF4.out.below HRF4.out.two
                  have HST := Aside0.mk hst
                  have HEN := Aside0.mk (And.intro h1 h2)
                  clear hst h1 h2 HKC HR0 HS5 HGO2 HERR c6
                  go_wp2_with (first | refine run_event rfl rfl rfl rfl rfl HST.out ?_ | refine run_event rfl rfl rfl rfl rfl HS6.out ?_)
                  refine bodyPost_ret (results_ctt rfl _ _ w.heap.size 24 #[.int .i64 0, .int .i64 0, .slice none 0 0] (0, 0) _ rfl HEN.out.1 Tryz.underlying24 rfl (by kernel_rfl)) rfl ?_
                  show RefParsed s w (.returned (.tuple #[_, .int .i64 (wrap64 ((i : Int) + 1)), _])) _
                  rw [hw8]
                  exact ref_post HPP.out HEN.out.2
              · have HS5 : Aside0 (stepP (bl x) st = if kindR ((wordsOf (bl x)).getD 0 ByteArray.empty) = 0 then (242, st)
                  else (codeR (kindR ((wordsOf (bl x)).getD 0 ByteArray.empty)) (wordsOf (bl x)).tail, ⟨st.said + 1, st.p0, st.p1, st.acts ++ [actR (kindR ((wordsOf (bl x)).getD 0 ByteArray.empty)) (wordsOf (bl x)).tail]⟩)) := ⟨by rw [HSTP.out, if_neg c4, if_neg hs0]⟩
                have b5 : ((st.said : Int) + 1 == 1) = false := by rw [beq_eq_false_iff_ne]; omega
                have b5d : decide ((st.said : Int) + 1 = 1) = false := decide_eq_false (by omega)
                have b5p : ((st.said : Int) + 1 = 1) = False := eq_false (by omega)
                obtain ⟨ad9, rfl, hcell9⟩ := Kd.at_string H9.out.1 (0 : Int) (by omega) (by rw [← HLL.out]; omega)
                rw [show rdOf ByteArray.empty (wordsOf (bl x)) (0 : Int) = (wordsOf (bl x)).getD 0 ByteArray.empty from rfl, show ad9.add (Int.toNat 0) = ad9 by cases ad9; simp [Addr.add]] at hcell9
                obtain ⟨y, hy⟩ : ∃ y, y = (wordsOf (bl x)).getD 0 ByteArray.empty := ⟨_, rfl⟩
                rw [← hy] at hcell9
                have HY := Aside0.mk hy
                have hcw : ∀ o, (w2.alloc o).cell? ad9 = some (.string y) := fun o => pw_cell_below (below_alloc (Below.refl _ _) _) hcell9
                have hl0 : (0 : Int) < (L : Int) := by omega
                have HC6 : Aside0 (st.said + 1 ≤ 20000 ∧ st.said ≠ 0) := ⟨by omega, hs0⟩
                have HAL : Aside0 (st.acts.length ≤ 1073741824) := ⟨by have := HAC.out.1; omega⟩
                have H5 : Aside0 ((st.said : Int) + 1 = ((st.said + 1 : Nat) : Int)) := ⟨by omega⟩
                clear hy hcell9
                go_wp2_with fail
                obtain ⟨g11, hg11⟩ : ∃ g, g = w2.heap.size := ⟨_, rfl⟩
                obtain ⟨w3, hw3⟩ : ∃ w3, w3 = w2.alloc (.cells (cs0 0) 31 (0, 0)) := ⟨_, rfl⟩
                have H3 : Aside0 (RfAt w G D (.slice (some ad) D.length c5) st.p0 st.p1 v st.acts w3 ∧ w3.heap[g11]? = some (.cells (cs0 0) 31 (0, 0)) ∧ G < g11 ∧ Below w2.heap.size w2 w3 ∧ Kd.S k31 31 w3 (G + 1) (fun k => k < g11) v st.acts) := ⟨by
                  have hb : Below w2.heap.size w2 w3 := by rw [hw3]; exact below_alloc (Below.refl _ _) _
                  have h2 := H9.out.2.2.1
                  refine ⟨h2.next hb, by rw [hw3, hg11]; exact blk_new w2 _, by rw [hg11]; exact blk_lt h2.six, hb, ?_⟩
                  exact Kd.S_below (Kd.S_mono (Kd.S_bound h2.acts) (fun k hk => by rw [hg11]; exact hk.2.2.1)) hb⟩
                have e31 : (w2.alloc (.cells #[.int .i64 0, .string ⟨#[]⟩, .string ⟨#[]⟩, .slice none 0 0, .string ⟨#[]⟩, .int .i64 0, .int .i64 0] 31)) = w3 := hw3.symm
                rw [e31, ← hg11]
                clear e31 hw3 hg11 hcw
                refine (kilnref24_kind.calls 13 y (kindR y) w3 (kind_f y)).mono ?_
                rintro e w4 ⟨rfl, hb4⟩
                have H4 : Aside0 (RfAt w G D (.slice (some ad) D.length c5) st.p0 st.p1 v st.acts w4 ∧ w4.heap[g11]? = some (.cells (cs0 0) 31 (0, 0)) ∧ Below w2.heap.size w2 w4 ∧ Kd.S k31 31 w4 (G + 1) (fun k => k < g11) v st.acts) := ⟨H3.out.1.next hb4, (hb4.block _ (blk_lt H3.out.2.1)).trans H3.out.2.1, below_then H3.out.2.2.2.1 H3.out.2.2.2.1.size hb4, Kd.S_below H3.out.2.2.2.2 hb4⟩
                clear hb4
                obtain ⟨kq, hkq⟩ : ∃ kq, kq = kindR y := ⟨_, rfl⟩
                rw [← hkq]
                have HKQ := Aside0.mk hkq
                have hk12 : kq ≤ 12 := by rw [hkq]; exact kindR_le y
                clear hkq
                by_cases c6 : kq = 0
                · have HPP := Aside0.mk (HERR.out 242 (by rw [HS5.out, if_pos (by rw [← HY.out, ← HKQ.out, c6])]) (by decide))
                  subst c6
                  have k2 : w4.cell? ⟨G, 2, none⟩ = some v := by rw [blk_cell H4.out.1.six]; rfl
                  have q0 : w4.cell? ⟨g11, 0, none⟩ = some (.int .i64 0) := by rw [blk_cell H4.out.2.1]; rfl
                  have q1 : w4.cell? ⟨g11, 1, none⟩ = some (.string ⟨#[]⟩) := by rw [blk_cell H4.out.2.1]; rfl
                  have q2 : w4.cell? ⟨g11, 2, none⟩ = some (.string ⟨#[]⟩) := by rw [blk_cell H4.out.2.1]; rfl
                  have q3 : w4.cell? ⟨g11, 3, none⟩ = some (.slice none 0 0) := by rw [blk_cell H4.out.2.1]; rfl
                  have q4 : w4.cell? ⟨g11, 4, none⟩ = some (.string ⟨#[]⟩) := by rw [blk_cell H4.out.2.1]; rfl
                  have q5 : w4.cell? ⟨g11, 5, none⟩ = some (.int .i64 0) := by rw [blk_cell H4.out.2.1]; rfl
                  have q6 : w4.cell? ⟨g11, 6, none⟩ = some (.int .i64 0) := by rw [blk_cell H4.out.2.1]; rfl
                  clear HS5 HGO2 HERR
                  go_wp2_with (first
                    | (at_builtin; refine row_app w4 (G + 1) rfl (.tmp 76) (.tmp 78) rfl v st.acts [.int .i64 0, .string ⟨#[]⟩, .string ⟨#[]⟩, .slice none 0 0, .string ⟨#[]⟩, .int .i64 0, .int .i64 0] (fun k => k < g11) (fun k => g11 ≤ k) (fun k hk h2 => by omega) rfl rfl (Kd.S_below H4.out.2.2.2 (below_alloc (Below.refl _ _) _)) rfl (by intro u hu; simp only [List.mem_cons, List.not_mem_nil, or_false] at hu; rcases hu with rfl | rfl | rfl | rfl | rfl | rfl | rfl <;> rfl) (blk_lt H4.out.1.six) HAL.out ?_; rintro v1 w5 hs5 ⟨A1, c1, rfl⟩ hM5; obtain ⟨hb5, hbl5, ht5, _⟩ := H4.out.1.grow (v1 := .slice A1 (st.acts.length + 1) c1) hs5; have k5 : w5.cell? ⟨G, 2, none⟩ = some v := (by rw [blk_cell hb5]; rfl); have f5 : ∀ o, w5.frozen? ⟨G, o, none⟩ = false := (fun o => blk_frozen hb5 o); obtain ⟨wE, hst, h1, h2⟩ := ref_end hbl5 ht5; have HST := Aside0.mk hst; have HEN := Aside0.mk (And.intro h1 h2); clear hst h1 h2 hb5 hbl5 ht5 hs5 hM5 k2 q0 q1 q2 q3 q4 q5 q6)
                    | refine run_event rfl rfl rfl rfl rfl HST.out ?_)
                  refine bodyPost_ret (results_ctt rfl _ _ w.heap.size 24 #[.int .i64 0, .int .i64 0, .slice none 0 0] (0, 0) _ rfl HEN.out.1 Tryz.underlying24 rfl (by kernel_rfl)) rfl ?_
                  show RefParsed s w (.returned (.tuple #[_, .int .i64 (wrap64 ((i : Int) + 1)), _])) _
                  rw [hw8]
                  exact ref_post HPP.out HEN.out.2
                · have hkg : decide ((kq : Int) > 0) = true := decide_eq_true (by omega)
                  have hkl : (0 : Int) < (kq : Int) := by omega
                  have hl1 : (1 : Int) ≤ (L : Int) := by omega
                  have hC9 := Kd.C_drop (m := 1) (c := c9) (Kd.C_below H9.out.1 H4.out.2.2.1) (by rw [← HLL.out]; exact hL0) H9.out.2.1
                  rw [List.drop_one] at hC9
                  have htl : (wordsOf (bl x)).tail.length = L - 1 := by rw [List.length_tail, ← HLL.out]
                  obtain ⟨K, r, hrf, hra⟩ := read_f kq (by omega) (wordsOf (bl x)).tail (fun z hz => H9.out.2.2.2.2 z (List.mem_of_mem_tail hz)) (by rw [htl]; have := H9.out.2.2.2.1; rw [← HLL.out] at this; omega)
                  obtain ⟨kc, hkc⟩ : ∃ kc, kc = codeR kq (wordsOf (bl x)).tail := ⟨_, rfl⟩
                  have hcall := kilnref24_read.calls K (kq : Int) (tailA (some ad9) c9) (c9 - 1) (wordsOf (bl x)).tail r.f0 r.f1 r.f2 r.f3 r.f4 r.f5 r.f6 _ w4 hC9 (by have := H9.out.2.1; rw [htl]; rw [← HLL.out] at this; omega) hrf
                  rw [htl, ← hkc] at hcall
                  have HKC := Aside0.mk hkc
                  have HRA := Aside0.mk hra
                  clear hkc hrf hra hC9 htl
                  go_wp2_with fail
                  all_goals
                    first
                      | rw [show tailA (some ad9) c9 = some ad9 from if_pos ‹c9 = 1›, show c9 - 1 = 0 by omega] at hcall
                      | rw [show tailA (some ad9) c9 = some { block := ad9.block, off := ad9.off + 1 } from (if_neg ‹¬c9 = 1›).trans rfl] at hcall
                    refine hcall.mono ?_
                    rintro e w5 ⟨v3, rfl, hR3, hb5⟩
                    clear hcall
                    obtain ⟨A3, c3, rfl⟩ := Kd.R_slice hR3
                    have hb511 := (hb5.block _ (blk_lt H4.out.2.1)).trans H4.out.2.1
                    obtain ⟨w6, hst, hW6⟩ := store7 hb511 rfl (.int .i64 r.f0) (.string r.f1) (.string r.f2) (.slice A3 r.f3.length c3) (.string r.f4) (.int .i64 r.f5) (.int .i64 r.f6) rfl rfl rfl rfl rfl rfl rfl rfl
                    obtain ⟨N4, hN4⟩ : ∃ N, N = w4.heap.size := ⟨_, rfl⟩
                    have HN4 : Aside0 (g11 < N4 ∧ G + 1 ≤ N4) := ⟨by rw [hN4]; exact ⟨blk_lt H4.out.2.1, blk_lt H4.out.1.six⟩⟩
                    have HG11 := H3.out.2.2.1
                    have H6 : Aside0 (RfAt w G D (.slice (some ad) D.length c5) st.p0 st.p1 v st.acts w6 ∧ Kd.S k31 31 w6 (G + 1) (fun k => k < g11) v st.acts ∧ w6.heap[g11]? = some (.cells #[.int .i64 r.f0, .string r.f1, .string r.f2, .slice A3 r.f3.length c3, .string r.f4, .int .i64 r.f5, .int .i64 r.f6] 31 (0, 0)) ∧ Kd.R Kd.string 9 w6 (G + 1) (fun k => N4 ≤ k) (.slice A3 r.f3.length c3) r.f3) := ⟨by
                      have hS5 := Kd.S_below H4.out.2.2.2 hb5
                      refine ⟨(H4.out.1.next hb5).keep hW6 HG11 hS5, Kd.S_step hS5 (fun k hk hlt => hW6.block k hlt (by omega)), hW6.at_, ?_⟩
                      refine Kd.R_lower (Kd.R_mono (Kd.R_move (Kd.R_bound hR3) (fun k hk => hW6.block k hk.2.2.1 (by have := hk.2.1; have := HN4.out; omega))) (fun k hk => by rw [hN4]; exact hk.2.1)) (by rw [← hN4]; exact HN4.out.2)⟩
                    have HS7 := Aside0.mk hst
                    have k2 : w6.cell? ⟨G, 2, none⟩ = some v := by rw [blk_cell H6.out.1.six]; rfl
                    have q0 : w6.cell? ⟨g11, 0, none⟩ = some (.int .i64 r.f0) := by rw [blk_cell H6.out.2.2.1]; rfl
                    have q1 : w6.cell? ⟨g11, 1, none⟩ = some (.string r.f1) := by rw [blk_cell H6.out.2.2.1]; rfl
                    have q2 : w6.cell? ⟨g11, 2, none⟩ = some (.string r.f2) := by rw [blk_cell H6.out.2.2.1]; rfl
                    have q3 : w6.cell? ⟨g11, 3, none⟩ = some (.slice A3 r.f3.length c3) := by rw [blk_cell H6.out.2.2.1]; rfl
                    have q4 : w6.cell? ⟨g11, 4, none⟩ = some (.string r.f4) := by rw [blk_cell H6.out.2.2.1]; rfl
                    have q5 : w6.cell? ⟨g11, 5, none⟩ = some (.int .i64 r.f5) := by rw [blk_cell H6.out.2.2.1]; rfl
                    have q6 : w6.cell? ⟨g11, 6, none⟩ = some (.int .i64 r.f6) := by rw [blk_cell H6.out.2.2.1]; rfl
                    clear hst hW6 hR3 hb5 hb511 hN4 HG11
                    have HKE : Aside0 (stepP (bl x) st = (kc, ⟨st.said + 1, st.p0, st.p1, st.acts ++ [actR kq (wordsOf (bl x)).tail]⟩)) := ⟨by rw [HS5.out, ← HY.out, ← HKQ.out, if_neg c6, HKC.out]⟩
                    by_cases c7 : kc = 0
                    · have hr : r = actR kq (wordsOf (bl x)).tail := HRA.out (by rw [← HKC.out, c7])
                      have HGO3 : Aside0 (goP ((linesOf (bl s) []).drop (i + 1)) (i + 1) ⟨st.said + 1, st.p0, st.p1, st.acts ++ [r]⟩ = parseP (bl s)) := ⟨by rw [hr, ← HGO2.out, HKE.out, if_pos c7]⟩
                      have HCN : Aside0 ((st.acts ++ [r]).length ≤ st.said + 1) := ⟨by have := HAC.out.1; simp; omega⟩
                      subst c7
                      clear HKC HRA HS5 HGO2 HERR HKE hr
                      go_wp2_with (first
                        | refine run_event rfl rfl rfl rfl rfl HS7.out ?_
                        | (at_builtin; refine row_app w6 (G + 1) rfl (.tmp 76) (.tmp 78) rfl v st.acts [.int .i64 r.f0, .string r.f1, .string r.f2, .slice A3 r.f3.length c3, .string r.f4, .int .i64 r.f5, .int .i64 r.f6] (fun k => k < g11) (fun k => N4 ≤ k) (fun k hk h2 => by have := HN4.out; omega) rfl rfl (Kd.S_below H6.out.2.1 (below_alloc (Below.refl _ _) _)) rfl (by intro u hu; simp only [List.mem_cons, List.not_mem_nil, or_false] at hu; rcases hu with rfl | rfl | rfl | rfl | rfl | rfl | rfl <;> rfl) (blk_lt H6.out.1.six) HAL.out ?_; rintro v1 w7 hs7 ⟨A1, c1, rfl⟩ hM7; obtain ⟨hb7, hbl7, ht7, hg7⟩ := H6.out.1.grow (v1 := .slice A1 (st.acts.length + 1) c1) hs7; have k7 : w7.cell? ⟨G, 2, none⟩ = some v := (by rw [blk_cell hb7]; rfl); have f7 : ∀ o, w7.frozen? ⟨G, o, none⟩ = false := (fun o => blk_frozen hb7 o); have HF7 := Aside0.mk (hg7 _ (hM7 r (k31_mkM _ (G + 1) _ r (Kd.R_below H6.out.2.2.2 (below_alloc (Below.refl _ _) _))))); clear hb7 hbl7 ht7 hg7 hs7 hM7 k2 q0 q1 q2 q3 q4 q5 q6))
                      go_roundw
                      case rel => exact ⟨i + 1, ⟨st.said + 1, st.p0, st.p1, st.acts ++ [r]⟩, _, by first | rfl | rw [H5.out], by first | rfl | (rw [hw8]; rfl), HI1.out, HC6.out.1, HGO3, ⟨⟨HCN.out, fun h => absurd h (Nat.succ_ne_zero _)⟩⟩, HF7⟩
                      case measure => first | exact HMS.out | (rw [hw8]; exact HMS.out)
                    · have hkn : (kc != 0) = true := by rw [bne_iff_ne]; exact c7
                      have hkd : decide (kc = 0) = false := decide_eq_false c7
                      have hkp : (kc = 0) = False := eq_false c7
                      have HPP := Aside0.mk (HERR.out kc (by rw [HKE.out]) c7)
                      clear HKC HRA HS5 HGO2 HERR HKE c7
                      go_wp2_with (first
                        | refine run_event rfl rfl rfl rfl rfl HS7.out ?_
                        | (at_builtin; refine row_app w6 (G + 1) rfl (.tmp 76) (.tmp 78) rfl v st.acts [.int .i64 r.f0, .string r.f1, .string r.f2, .slice A3 r.f3.length c3, .string r.f4, .int .i64 r.f5, .int .i64 r.f6] (fun k => k < g11) (fun k => N4 ≤ k) (fun k hk h2 => by have := HN4.out; omega) rfl rfl (Kd.S_below H6.out.2.1 (below_alloc (Below.refl _ _) _)) rfl (by intro u hu; simp only [List.mem_cons, List.not_mem_nil, or_false] at hu; rcases hu with rfl | rfl | rfl | rfl | rfl | rfl | rfl <;> rfl) (blk_lt H6.out.1.six) HAL.out ?_; rintro v1 w7 hs7 ⟨A1, c1, rfl⟩ hM7; obtain ⟨hb7, hbl7, ht7, hg7⟩ := H6.out.1.grow (v1 := .slice A1 (st.acts.length + 1) c1) hs7; have k7 : w7.cell? ⟨G, 2, none⟩ = some v := (by rw [blk_cell hb7]; rfl); have f7 : ∀ o, w7.frozen? ⟨G, o, none⟩ = false := (fun o => blk_frozen hb7 o); obtain ⟨wE, hst, h1, h2⟩ := ref_end hbl7 ht7; have HST := Aside0.mk hst; have HEN := Aside0.mk (And.intro h1 h2); clear hst h1 h2 hb7 hbl7 ht7 hg7 hs7 hM7 k2 q0 q1 q2 q3 q4 q5 q6)
                        | refine run_event rfl rfl rfl rfl rfl HST.out ?_)
                      refine bodyPost_ret (results_ctt rfl _ _ w.heap.size 24 #[.int .i64 0, .int .i64 0, .slice none 0 0] (0, 0) _ rfl HEN.out.1 Tryz.underlying24 rfl (by kernel_rfl)) rfl ?_
                      show RefParsed s w (.returned (.tuple #[_, .int .i64 (wrap64 ((i : Int) + 1)), _])) _
                      rw [hw8]
                      exact ref_post HPP.out HEN.out.2
    · obtain rfl : i = D.length := by omega
      have b1 : decide ((D.length : Int) < (D.length : Int)) = false := decide_eq_false (by omega)
      have HEND : Aside0 ((if st.said = 0 then (((0, 0, []), 0, 240) : (Int × Int × List S31) × Int × Int) else ((st.p0, st.p1, st.acts), 0, 0)) = parseP (bl s)) := ⟨by
        rw [← HGO.out, List.drop_of_length_le (by rw [HDE.out, List.length_map]; exact Nat.le_refl _)]
        rfl⟩
      by_cases c5 : st.said = 0
      · have HPP : Aside0 (parseP (bl s) = ((0, 0, []), 0, 240)) := ⟨by rw [← HEND.out, if_pos c5]⟩
        have b5 : ((st.said : Int) == 0) = true := by rw [beq_iff_eq]; omega
        have b5d : decide ((st.said : Int) = 0) = true := decide_eq_true (by omega)
        have b5p : ((st.said : Int) = 0) = True := eq_true (by omega)
        obtain ⟨wE, hst, h1, h2⟩ := ref_end HPL.out.below HPL.out.two
        have HST := Aside0.mk hst
        have HEN := Aside0.mk (And.intro h1 h2)
        clear hst h1 h2 c5 HEND
        go_wp2_with (refine run_event rfl rfl rfl rfl rfl HST.out ?_)
        refine bodyPost_ret (results_ctt rfl _ _ w.heap.size 24 #[.int .i64 0, .int .i64 0, .slice none 0 0] (0, 0) _ rfl HEN.out.1 Tryz.underlying24 rfl (by kernel_rfl)) rfl ?_
        exact ref_post HPP.out HEN.out.2
      · have HPP : Aside0 (parseP (bl s) = ((st.p0, st.p1, st.acts), 0, 0)) := ⟨by rw [← HEND.out, if_neg c5]⟩
        have b5 : ((st.said : Int) == 0) = false := by rw [beq_eq_false_iff_ne]; omega
        have b5d : decide ((st.said : Int) = 0) = false := decide_eq_false (by omega)
        have b5p : ((st.said : Int) = 0) = False := eq_false (by omega)
        obtain ⟨Av, cv, rfl⟩ := Kd.R_slice (Kd.S_R HPL.out.acts)
        have k0 : wr.cell? ⟨G, 0, none⟩ = some (.int .i64 st.p0) := by rw [blk_cell HPL.out.six]; rfl
        have k1 : wr.cell? ⟨G, 1, none⟩ = some (.int .i64 st.p1) := by rw [blk_cell HPL.out.six]; rfl
        have k2 : wr.cell? ⟨G, 2, none⟩ = some (.slice Av st.acts.length cv) := by rw [blk_cell HPL.out.six]; rfl
        obtain ⟨c2, hc2, hb2⟩ := HPL.out.two
        obtain ⟨w2, hst, hW2⟩ := store3 hb2 hc2 (.int .i64 st.p0) (.int .i64 st.p1) (.slice Av st.acts.length cv) rfl rfl rfl rfl
        have HST := Aside0.mk hst
        have HEN := Aside0.mk hW2
        clear hst hW2 c5 HEND
        go_wp2_with (refine run_event rfl rfl rfl rfl rfl HST.out ?_)
        refine bodyPost_ret (results_ctt rfl _ _ w.heap.size 24 #[.int .i64 st.p0, .int .i64 st.p1, .slice Av st.acts.length cv] (0, 0) _ rfl HEN.out.at_ Tryz.underlying24 rfl (by kernel_rfl)) rfl ?_
        refine ⟨.slice Av st.acts.length cv, by rw [HPP.out]; rfl, ?_, HPL.out.below.trans (HEN.out.below (Nat.le_refl _) HPL.out.below.size)⟩
        rw [HPP.out]
        have hlow := HPL.out.low
        exact Kd.S_lower (Kd.S_mono (Kd.S_step (Kd.S_bound HPL.out.acts) (fun k hk hlt => HEN.out.block k hlt (by have := hk.2.1; omega))) (fun _ _ => trivial)) (by omega)
end Go.Proofs.YtkfjjmmpbfjhaaaGreatDoor.Tells
