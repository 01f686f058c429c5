/- script.Parse, walked. Conditions: those that each theorem states. -/
import Derived.Test.YtkfjjmmpbfjhaaaGreatDoorScrX3
namespace Go.Proofs.YtkfjjmmpbfjhaaaGreatDoor.Tells
open Go.RowKit Go.Proofs.YtkfjjmmpbfjhaaaGreatDoor.Facts Go.Proofs.YtkfjjmmpbfjhaaaGreatDoor.PScriptActs Go.Proofs.YtkfjjmmpbfjhaaaGreatDoorW.PrintWords Go.Proofs.YtkfjjmmpbfjhaaaGreatDoorW.PrintLast Go.Proofs.YtkfjjmmpbfjhaaaGreatDoorW.PrintMore
attribute [local go_sem] max2_int min2_int max_two min_two max_three min_three max_four min_four
set_option linter.unusedVariables false
set_option linter.unusedSimpArgs false
theorem info24s : (Tryz.prog.info? 24).map (·.size) = some 3 := by kernel_rfl
theorem store3 {wr : World} {G : Nat} {c2 : Array Value} (h : wr.heap[G]? = some (.cells c2 24 (0, 0))) (hc : c2.size = 3) (v0 v1 v2 : Value) (h0 : v0.oneCell' = true) (h1 : v1.oneCell' = true) (h2 : v2.oneCell' = true) (hcs : (Value.agg #[v0, v1, v2]).cells.toList = [v0, v1, v2]) :
    ∃ w1, (Instr.storeAt 24 (.pointer (some ⟨G, 0, none⟩)) (.agg #[v0, v1, v2])).run Tryz.prog wr = .ok () w1 ∧ Wrote wr G (.cells #[v0, v1, v2] 24 (0, 0)) w1 := by
  refine ⟨_, run_store_run 24 _ [v0, v1, v2] h hcs info24s (by rw [hc]; exact Nat.le_refl _) (by intro q hq; simp at hq; rcases hq with rfl | rfl | rfl <;> assumption), ?_⟩
  obtain ⟨z0, z1, z2, rfl⟩ : ∃ z0 z1 z2, c2 = #[z0, z1, z2] := by
    rcases c2 with ⟨l⟩
    rcases l with _ | ⟨a, _ | ⟨b, _ | ⟨c, _ | ⟨d, l⟩⟩⟩⟩ <;> simp at hc
    exact ⟨a, b, c, rfl⟩
  have a0 : Wrote wr G (.cells #[v0, z1, z2] 24 (0, 0)) (wr.setCell ⟨G, 0, none⟩ v0) := Wrote.set (i := 0) (Below.refl _ _) h v0
  have a1 : Wrote wr G (.cells #[v0, v1, z2] 24 (0, 0)) ((wr.setCell ⟨G, 0, none⟩ v0).setCell ⟨G, 1, none⟩ v1) := a0.again (Wrote.set (i := 1) (Below.refl _ _) a0.at_ v1)
  exact a1.again (Wrote.set (i := 2) (Below.refl _ _) a1.at_ v2)
section
variable {P : Program} {ops : Array Oper} {rest : List Oper} {o : Oper} {a : Act} {Q : Exit → Act → World → Prop}
/-- a store whose run is known -/
theorem run_event {W w1 : World} (hgd : o.guard = none) (hN : o.dst = none) {t : TypeId} {p x : Operand} {vp vx : Value} (ho : o.op = .store t p x) (hp : a.eval p = vp) (hx : a.eval x = vx) (hrun : (Instr.storeAt t vp vx).run P W = .ok () w1) (h : wpList P ops Q rest a w1) : wpList P ops Q (o :: rest) a W := by
  refine wpList_plain hgd fun K hK => ?_
  unfold Oper.wp
  have hr : (execOp a.eval o).run P W = .ok .skip w1 := by
    unfold execOp
    rw [ho]
    simp [hp, hx, hrun]
  rw [hr]
  show K (a.put o.dst undef) w1
  rw [hN]
  exact hK _ _ h
end
/-- the pieces that a text is split into, its last empty one left out -/
def piecesOf (s : ByteArray) : List ByteArray := Lib.splitB ⟨#[10]⟩ 0 (Lib.countB s ⟨#[10]⟩) s
theorem pieces_cuts (s : ByteArray) : (piecesOf s).map bl = cuts 10 (bl s) [] := (splitB_cuts s 10).1
theorem pieces_len (s : ByteArray) : (piecesOf s).length = Lib.countB s ⟨#[10]⟩ + 1 := by
  rw [← List.length_map (f := bl), pieces_cuts, (splitB_cuts s 10).2]
def mOf (s : ByteArray) : Nat := if (piecesOf s).getD (Lib.countB s ⟨#[10]⟩) ByteArray.empty = ⟨#[]⟩ then Lib.countB s ⟨#[10]⟩ else Lib.countB s ⟨#[10]⟩ + 1
theorem pieces_lines (s : ByteArray) : ((piecesOf s).take (mOf s)).map bl = linesOf (bl s) [] := by
  have hl := pieces_len s
  have hc := pieces_cuts s
  have hcl := (splitB_cuts s 10).2
  have hlast : (cuts 10 (bl s) []).getLast (cuts_ne 10 (bl s) []) = bl ((piecesOf s).getD (Lib.countB s ⟨#[10]⟩) ByteArray.empty) := by
    rw [List.getLast_eq_getElem, List.getD_eq_getElem?_getD, List.getElem?_eq_getElem (by omega), Option.getD_some]
    have : (cuts 10 (bl s) [])[(cuts 10 (bl s) []).length - 1]? = some (bl ((piecesOf s)[Lib.countB s ⟨#[10]⟩]'(by omega))) := by
      have e1 : (cuts 10 (bl s) []).length - 1 = Lib.countB s ⟨#[10]⟩ := by omega
      rw [e1, ← hc, List.getElem?_map, List.getElem?_eq_getElem (by omega)]
      rfl
    rw [List.getElem?_eq_getElem (by omega)] at this
    injection this
  rw [lines_cuts, hlast, List.map_take, hc]
  unfold mOf
  by_cases h : (piecesOf s).getD (Lib.countB s ⟨#[10]⟩) ByteArray.empty = ⟨#[]⟩
  · rw [if_pos h, if_pos (by rw [h]), List.dropLast_eq_take, hcl, Nat.add_sub_cancel]
  · rw [if_neg h, if_neg (fun h2 => h (by rw [← mk_bl ((piecesOf s).getD (Lib.countB s ⟨#[10]⟩) ByteArray.empty), h2]; rfl)), List.take_of_length_le (Nat.le_of_eq hcl)]
theorem mOf_le (s : ByteArray) : mOf s ≤ (piecesOf s).length := by
  rw [pieces_len]; unfold mOf; split <;> omega
/-- MaxLen's cell -/
def Mx (w : World) : Prop := ∃ m, w.cell? ⟨3, 0, none⟩ = some (.int .i64 m)
theorem Mx.below {w w' : World} (h : Mx w) (hb : Below w.heap.size w w') : Mx w' := by
  obtain ⟨m, hm⟩ := h
  exact ⟨m, pw_cell_below hb hm⟩
theorem split_calls (s sep : ByteArray) (w : World) (hm : Mx w) (hs : s.size < 4294967281) (h1 : 1 ≤ sep.size) :
    Calls Tryz.prog 34 #[.string s, .string sep] w fun e w' =>
      e = .returned (.slice (some ⟨w.heap.size, 0, none⟩) (Lib.countB s sep + 1) (Lib.countB s sep + 1)) ∧ w' = w.alloc (.cells ((Lib.splitB sep 0 (Lib.countB s sep) s).map Value.string).toArray 9) := by
  obtain ⟨m, hm⟩ := hm
  exact Any.strings_Split { Tryz.laysM146 with } Tryz.laysM146.i9 s sep m w hs hm h1
/-- where Parse stands: the play read so far, the reader, the lines -/
structure RdAt (w : World) (s : ByteArray) (p0 p1 pl : Int) (v : Value) (acts : List S31) (wr : World) : Prop where
  below : Below w.heap.size w wr
  size : w.heap.size + 3 ≤ wr.heap.size
  two : ∃ c2 : Array Value, c2.size = 3 ∧ wr.heap[w.heap.size]? = some (.cells c2 24 (0, 0))
  rd : wr.heap[w.heap.size + 1]? = some (.cells (rdC p0 p1 v pl) 76 (0, 0))
  lines : wr.heap[w.heap.size + 2]? = some (.cells ((piecesOf s).map Value.string).toArray 9 (0, 0))
  acts : Kd.S k31 31 wr (w.heap.size + 3) (fun _ => True) v acts
theorem piece_cell {w : World} {s : ByteArray} {p0 p1 pl : Int} {v : Value} {acts : List S31} {wr : World} (h : RdAt w s p0 p1 pl v acts wr) {j : Nat} (hj : j < (piecesOf s).length) : wr.cell? ⟨w.heap.size + 2, j, none⟩ = some (.string ((piecesOf s).getD j ByteArray.empty)) := by
  rw [blk_cell h.lines]
  simp only [List.getElem?_toArray, List.getElem?_map, List.getD_eq_getElem?_getD, List.getElem?_eq_getElem hj]
  rfl
/-- what Parse answers -/
def Parsed (s : ByteArray) (w : World) (e : Ending) (w' : World) : Prop := ∃ v er, e = .returned (.tuple #[.agg #[.int .i64 (parseP (bl s)).1.1, .int .i64 (parseP (bl s)).1.2.1, v], er]) ∧ Below w.heap.size w w' ∧ Kd.S k31 31 w' w.heap.size (fun _ => True) v (parseP (bl s)).1.2.2 ∧ ((parseP (bl s)).2.2 = 0 → er = .nilIface) ∧ ((parseP (bl s)).2.2 ≠ 0 → ∃ g, er = .iface 55 (.pointer (some ⟨g, 0, none⟩)) ∧ w'.heap[g]? = some (.cells #[.int .i64 (parseP (bl s)).2.1, .int .i64 (parseP (bl s)).2.2] 80 (0, 0)) ∧ w.heap.size ≤ g)
/-- the error's block and the empty play, laid -/
theorem err_end {w wr : World} (hb : Below w.heap.size w wr) (h2 : ∃ c2 : Array Value, c2.size = 3 ∧ wr.heap[w.heap.size]? = some (.cells c2 24 (0, 0))) (l c : Int) :
    ∃ w2, (Instr.storeAt 24 (.pointer (some ⟨w.heap.size, 0, none⟩)) (.agg #[.int .i64 0, .int .i64 0, .slice none 0 0])).run Tryz.prog (wr.alloc (.cells #[.int .i64 l, .int .i64 c] 80 (0, 0))) = .ok () w2 ∧ w2.heap[w.heap.size]? = some (.cells #[.int .i64 0, .int .i64 0, .slice none 0 0] 24 (0, 0)) ∧ w2.heap[wr.heap.size]? = some (.cells #[.int .i64 l, .int .i64 c] 80 (0, 0)) ∧ Below w.heap.size w w2 := by
  obtain ⟨c2, hc2, hb2⟩ := h2
  have hba : Below wr.heap.size wr (wr.alloc (.cells #[.int .i64 l, .int .i64 c] 80 (0, 0))) := below_alloc (Below.refl _ _) _
  have hlt := blk_lt hb2
  obtain ⟨w2, hst, hW2⟩ := store3 ((hba.block _ hlt).trans hb2) hc2 (.int .i64 0) (.int .i64 0) (.slice none 0 0) rfl rfl rfl rfl
  have hk := blk_new wr (.cells #[.int .i64 l, .int .i64 c] 80 (0, 0))
  exact ⟨w2, hst, hW2.at_, (hW2.block _ (blk_lt hk) (by omega)).trans hk, (below_then hb hb.size hba).trans (hW2.below (Nat.le_refl _) (below_then hb hb.size hba).size)⟩
theorem err_post {s : ByteArray} {w w2 : World} {g : Nat} {l c : Int} (hp : parseP (bl s) = ((0, 0, []), l, c)) (hc : c ≠ 0) (hg : w2.heap[g]? = some (.cells #[.int .i64 l, .int .i64 c] 80 (0, 0))) (hb : Below w.heap.size w w2) (hl : w.heap.size ≤ g) :
    Parsed s w (.returned (.tuple #[.agg #[.int .i64 0, .int .i64 0, .slice none 0 0], .iface 55 (.pointer (some ⟨g, 0, none⟩))])) w2 := by
  refine ⟨.slice none 0 0, .iface 55 (.pointer (some ⟨g, 0, none⟩)), ?_, hb, ?_, fun h => ?_, fun _ => ⟨g, rfl, ?_, hl⟩⟩
  · rw [hp]
  · rw [hp]; exact Kd.S_nil _ _ _ _ _
  · rw [hp] at h; exact absurd h hc
  · rw [hp]; exact hg
/-- a block of texts, read -/
theorem blk_C {W : World} {B : Nat} {l : List ByteArray} (h : W.heap[B]? = some (.cells (l.map Value.string).toArray 9 (0, 0))) (hl : l.length ≤ 9223372036854775807) : Kd.C Kd.string W (some ⟨B, 0, none⟩) l.length l := by
  refine ⟨rfl, hl, fun hn => ⟨⟨B, 0, none⟩, rfl, fun j s hj => ⟨[.string s], rfl, rfl, fun i u hu => ?_⟩⟩⟩
  match i, hu with
  | 0, hu =>
    cases hu
    rw [show j * Kd.string.sz + 0 = j from by show j * 1 + 0 = j; omega, add_plain, blk_cell h j]
    simp [hj]
/-- a line's words, split -/
theorem split_words (x : ByteArray) : Lib.splitB ⟨#[32]⟩ 0 (Lib.countB x ⟨#[32]⟩) x = wordsOf (bl x) ∧ (wordsOf (bl x)).length = Lib.countB x ⟨#[32]⟩ + 1 := by
  obtain ⟨h1, h2⟩ := splitB_cuts x 32
  exact ⟨of_bl h1, by unfold wordsOf; rw [List.length_map, h2]⟩
/-- where a line's reader is called -/
theorem line_in {w wr w2 : World} {s x : ByteArray} {p0 p1 pl : Int} {v : Value} {acts : List S31} (E : Env w) (h : RdAt w s p0 p1 pl v acts wr) (hx : x.size ≤ 262144) (hw2 : w2 = wr.alloc (.cells ((wordsOf (bl x)).map Value.string).toArray 9)) :
    LineIn w2 (w.heap.size + 1) (rdC p0 p1 v pl) (some ⟨wr.heap.size, 0, none⟩) (wordsOf (bl x)) ∧ RdAt w s p0 p1 pl v acts w2 ∧ (wordsOf (bl x)).length ≤ 262145 := by
  have hlen := wordsOf_len (bl x)
  have hbx := bl_len x
  have hb : Below wr.heap.size wr w2 := by rw [hw2]; exact below_alloc (Below.refl _ _) _
  have hk : w2.heap[wr.heap.size]? = some (.cells ((wordsOf (bl x)).map Value.string).toArray 9 (0, 0)) := by rw [hw2]; exact blk_new wr _
  have hsz := h.size
  refine ⟨⟨(hb.block _ (blk_lt h.rd)).trans h.rd, fun W o hW => blk_C ((hW.block _ (blk_lt hk) (by omega)).trans hk) (by omega), fun W o hW => E.below ((below_then h.below h.below.size hb).trans (hW.below (by omega) (below_then h.below h.below.size hb).size)), fun y hy => by have := hlen.2 y hy; omega, wordsOf_pos _⟩, ?_, by omega⟩
  obtain ⟨c2, hc2, hb2⟩ := h.two
  exact ⟨below_then h.below h.below.size hb, Nat.le_trans h.size hb.size, ⟨c2, hc2, (hb.block _ (blk_lt hb2)).trans hb2⟩, (hb.block _ (blk_lt h.rd)).trans h.rd, (hb.block _ (blk_lt h.lines)).trans h.lines, Kd.S_below h.acts hb⟩
/-- behind the room's line -/
theorem RdAt.room {w w2 w3 : World} {s : ByteArray} {p0 p1 pl q0 q1 ql : Int} {v : Value} {acts : List S31} {cs : Array Value} (h : RdAt w s p0 p1 pl v acts w2) (hw : Wrote w2 (w.heap.size + 1) (.cells cs 76 (0, 0)) w3) :
    Below w.heap.size w w3 ∧ (∃ c2 : Array Value, c2.size = 3 ∧ w3.heap[w.heap.size]? = some (.cells c2 24 (0, 0))) ∧ (cs = rdC q0 q1 v ql → RdAt w s q0 q1 ql v acts w3) := by
  have hsz := h.size
  have hb := h.below.trans (hw.below (Nat.le_succ _) h.below.size)
  obtain ⟨c2, hc2, hb2⟩ := h.two
  have h2 : ∃ c2 : Array Value, c2.size = 3 ∧ w3.heap[w.heap.size]? = some (.cells c2 24 (0, 0)) := ⟨c2, hc2, (hw.block _ (blk_lt hb2) (by omega)).trans hb2⟩
  refine ⟨hb, h2, fun hc => ⟨hb, Nat.le_trans h.size hw.size, h2, by rw [← hc]; exact hw.at_, (hw.block _ (blk_lt h.lines) (by omega)).trans h.lines, ?_⟩⟩
  exact Kd.S_mono (Kd.S_step (Kd.S_bound h.acts) (fun k hk hlt => hw.block k hlt (by have := hk.2.1; omega))) (fun _ _ => trivial)
/-- behind an act's line -/
theorem RdAt.act {w w2 w3 : World} {s : ByteArray} {p0 p1 pl ql : Int} {v v' : Value} {acts acts' : List S31} (h : RdAt w s p0 p1 pl v acts w2) (hw : Still w2 w3 (fun k => k = w.heap.size + 1 ∨ w.heap.size + 3 ≤ k)) :
    Below w.heap.size w w3 ∧ (∃ c2 : Array Value, c2.size = 3 ∧ w3.heap[w.heap.size]? = some (.cells c2 24 (0, 0))) ∧ (w3.heap[w.heap.size + 1]? = some (.cells (rdC p0 p1 v' ql) 76 (0, 0)) → Kd.S k31 31 w3 (w.heap.size + 3) (fun _ => True) v' acts' → RdAt w s p0 p1 ql v' acts' w3) := by
  have hsz := h.size
  have hb : Below w.heap.size w w3 := h.below.trans (hw.below h.below.size (fun k hk => by rcases hk with rfl | hk <;> omega))
  obtain ⟨c2, hc2, hb2⟩ := h.two
  have h2 : ∃ c2 : Array Value, c2.size = 3 ∧ w3.heap[w.heap.size]? = some (.cells c2 24 (0, 0)) := ⟨c2, hc2, hw.blk hb2 (by omega)⟩
  exact ⟨hb, h2, fun h3 h4 => ⟨hb, Nat.le_trans h.size hw.size, h2, h3, hw.blk h.lines (by omega), h4⟩⟩
set_option maxHeartbeats 4000000 in
set_option maxRecDepth 100000 in
theorem parse_calls (s : ByteArray) (hs : s.size ≤ 1073741824) (w : World) (E : Env w) (M : Mx w) : Calls Tryz.prog 17 #[.string s] w (Parsed s w) := by
  have HE := Aside0.mk (And.intro E M)
  clear E M
  go_enter Tryz.func17, Tryz.ntmps17
  go_wp2_with fail
  refine (split_calls s ⟨#[10]⟩ _ (HE.out.2.below (below_alloc (below_alloc (Below.refl _ _) _) _)) (by omega) (by decide)).mono ?_
  rintro e w1 ⟨rfl, hw1⟩
  obtain ⟨N, hN⟩ : ∃ N, N = Lib.countB s ⟨#[10]⟩ := ⟨_, rfl⟩
  have hNL : N ≤ s.size := by rw [hN]; exact Lib.countB_le ⟨#[10]⟩ (by decide) s.size s (Nat.le_refl _)
  have e2 : ((w.alloc (.cells #[.int .i64 0, .int .i64 0, .slice none 0 0] 24)).alloc (.cells #[.int .i64 0, .int .i64 0, .slice none 0 0, .int .i64 0] 76)).heap.size = w.heap.size + 2 := by simp
  have HP : Aside0 (RdAt w s 0 0 0 (.slice none 0 0) [] w1) := ⟨by
    rw [hw1]
    have k1 := blk_new w (.cells #[.int .i64 0, .int .i64 0, .slice none 0 0] 24)
    have k2 := blk_new (w.alloc (.cells #[.int .i64 0, .int .i64 0, .slice none 0 0] 24)) (.cells #[.int .i64 0, .int .i64 0, .slice none 0 0, .int .i64 0] 76)
    have hb1 : Below w.heap.size w (w.alloc (.cells #[.int .i64 0, .int .i64 0, .slice none 0 0] 24)) := below_alloc (Below.refl _ _) _
    have hb2 : ∀ (W : World) o, Below W.heap.size W (W.alloc o) := fun W o => below_alloc (Below.refl _ _) _
    refine ⟨below_then (below_then hb1 hb1.size (hb2 _ _)) (below_then hb1 hb1.size (hb2 _ _)).size (hb2 _ _), by simp, ⟨_, rfl, ((hb2 _ _).block _ (by rw [e2]; omega)).trans (((hb2 _ _).block _ (blk_lt k1)).trans k1)⟩, ?_, ?_, Kd.S_nil _ _ _ _ _⟩
    · have k3 : ((w.alloc (.cells #[.int .i64 0, .int .i64 0, .slice none 0 0] 24)).alloc (.cells #[.int .i64 0, .int .i64 0, .slice none 0 0, .int .i64 0] 76)).heap[w.heap.size + 1]? = some (.cells #[.int .i64 0, .int .i64 0, .slice none 0 0, .int .i64 0] 76 (0, 0)) := by simpa using k2
      exact ((hb2 _ _).block _ (blk_lt k3)).trans k3
    · have k4 := blk_new ((w.alloc (.cells #[.int .i64 0, .int .i64 0, .slice none 0 0] 24)).alloc (.cells #[.int .i64 0, .int .i64 0, .slice none 0 0, .int .i64 0] 76)) (.cells ((piecesOf s).map Value.string).toArray 9)
      rw [e2] at k4
      exact k4⟩
  rw [e2, ← hN]
  have HN : Aside0 (N = Lib.countB s ⟨#[10]⟩) := ⟨hN⟩
  clear hw1 hN e2
  have hw17 : wrap64 (((N + 1 : Nat) : Int) - 1) = (N : Int) := by unfold wrap64; omega
  have hNp : (N : Int) < ((N + 1 : Nat) : Int) := by omega
  have hN0 : (0 : Int) ≤ (N : Int) := by omega
  obtain ⟨x, hx⟩ : ∃ x, (piecesOf s).getD N ByteArray.empty = x := ⟨_, rfl⟩
  have hc1 : w1.cell? ⟨w.heap.size + 2, N, none⟩ = some (.string x) := by
    rw [← hx]
    exact piece_cell HP.out (by rw [pieces_len, ← HN.out]; omega)
  obtain ⟨bq, hbq⟩ : ∃ bq, (x.toList == []) = bq := ⟨_, rfl⟩
  have HBX : Aside0 (bq = true ↔ x = ⟨#[]⟩) := ⟨by
    rw [← hbq, beq_iff_eq, ByteArray.toList_eq]
    exact ⟨fun h => ByteArray.ext (Array.toList_inj.1 h), fun h => by rw [h]⟩⟩
  cases bq with
  | false =>
    go_wp2_with fail
    have HM : Aside0 (mOf s = (N + 1) ∧ (N + 1) ≤ (piecesOf s).length) := ⟨by
      have hm : mOf s = (N + 1) := by
        unfold mOf
        rw [← HN.out, hx]
        rw [if_neg (fun h => by have := HBX.out.2 h; cases this)]
      exact ⟨hm, by rw [← hm]; exact mOf_le s⟩⟩
    have HMZ : Aside0 ((N + 1) ≤ 1073741825) := ⟨by omega⟩
    clear hw17 hNp hN0 hx hc1 hbq
    go_loopw [5, 28] (fun v5 v28 wr => ∃ (i : Nat) (st : StP) (v : Value), v5 = .int .i64 (st.said : Int) ∧ v28 = .int .i64 (i : Int) ∧ i ≤ (N + 1) ∧ st.said ≤ 20000 ∧ Aside0 (goP ((linesOf (bl s) []).drop i) i st = parseP (bl s)) ∧ Aside0 (st.acts.length ≤ st.said ∧ RdAt w s st.p0 st.p1 (if st.said = 0 then 0 else 1) v st.acts wr)) (fun _ i _ => (N + 1) - (intOf i).toNat)
    case atStart => exact ⟨0, ⟨0, 0, 0, []⟩, .slice none 0 0, rfl, rfl, Nat.zero_le _, Nat.zero_le _, ⟨rfl⟩, ⟨Nat.le_refl _, HP.out⟩⟩
    case round =>
      clear HP
      obtain ⟨i, st, v, rfl, rfl, hi, hsd, HGO, HAC⟩ := hrel
      by_cases hlt : i < (N + 1)
      · have b1 : decide ((i : Int) < ((N : Int) + 1)) = true := decide_eq_true (by omega)
        have p0 : (0 : Int) ≤ (i : Int) := by omega
        have p1 : (i : Int) < (((N + 1) : Nat) : Int) := by omega
        have p2 : (i : Int) < ((N : Int) + 1) := by omega
        obtain ⟨x, hx⟩ : ∃ x, (piecesOf s).getD i ByteArray.empty = x := ⟨_, rfl⟩
        have hil : i < (piecesOf s).length := Nat.lt_of_lt_of_le hlt HM.out.2
        have hcell := piece_cell HAC.out.2 hil
        rw [hx] at hcell
        have HGO2 : Aside0 ((if (stepP (bl x) st).1 = 0 then goP ((linesOf (bl s) []).drop (i + 1)) (i + 1) (stepP (bl x) st).2 else ((0, 0, []), (i + 1 : Int), (stepP (bl x) st).1)) = parseP (bl s)) := ⟨by
          rw [← HGO.out]
          have hx2 : (linesOf (bl s) [])[i]? = some (bl x) := by
            rw [← pieces_lines s, HM.out.1, List.getElem?_map, List.getElem?_take_of_lt hlt, List.getElem?_eq_getElem hil, ← hx, List.getD_eq_getElem?_getD, List.getElem?_eq_getElem hil]
            rfl
          have hil2 : i < (linesOf (bl s) []).length := (List.getElem?_eq_some_iff.1 hx2).1
          have hd : (linesOf (bl s) []).drop i = bl x :: (linesOf (bl s) []).drop (i + 1) := by
            rw [List.drop_eq_getElem_cons hil2]
            congr 1
            rw [List.getElem?_eq_getElem hil2] at hx2
            injection hx2
          rw [hd]; rfl⟩
        have HERR : Aside0 (∀ c : Int, (stepP (bl x) st).1 = c → c ≠ 0 → parseP (bl s) = ((0, 0, []), (i : Int) + 1, c)) := ⟨fun c h1 h2 => by rw [← HGO2.out, h1, if_neg h2]⟩
        have HMS : Aside0 ((N + 1) - (intOf (Value.int IntKind.i64 ((i : Int) + 1))).toNat < (N + 1) - (intOf (Value.int IntKind.i64 (i : Int))).toNat) := ⟨meas_step _ _ hlt⟩
        have HI1 : Aside0 (i + 1 ≤ (N + 1)) := ⟨hlt⟩
        have hw8 : wrap64 ((i : Int) + 1) = (i : Int) + 1 := wrap_next i (by have := HMZ.out; omega)
        clear hx HGO
        by_cases c1 : 262144 < x.size
        · have b2 : decide ((x.size : Int) > 262144) = true := decide_eq_true (by omega)
          have HPP := Aside0.mk (HERR.out 241 (by unfold stepP; rw [if_pos (by rw [bl_len]; exact c1)]) (by decide))
          obtain ⟨w2, hst, h1, h2, h3⟩ := err_end HAC.out.2.below HAC.out.2.two ((i : Int) + 1) 241
          have HST := Aside0.mk hst
          have HEN := Aside0.mk (And.intro h1 (And.intro h2 (And.intro h3 HAC.out.2.below.size)))
          clear hst h1 h2 h3
          go_wp2_with (refine run_event rfl rfl rfl rfl rfl HST.out ?_)
          refine bodyPost_ret (results_ct rfl _ _ w.heap.size 24 #[.int .i64 0, .int .i64 0, .slice none 0 0] (0, 0) _ rfl HEN.out.1 Tryz.underlying24 rfl (by kernel_rfl)) rfl ?_
          exact err_post HPP.out (by decide) HEN.out.2.1 HEN.out.2.2.1 HEN.out.2.2.2
        · have b2 : decide ((x.size : Int) > 262144) = false := decide_eq_false (by omega)
          have HXS : Aside0 (x.size ≤ 262144) := ⟨by omega⟩
          by_cases c2 : x.size = 0
          · have hx0 : x = ⟨#[]⟩ := by
              apply ByteArray.ext
              exact Array.eq_empty_of_size_eq_zero c2
            subst hx0
            have HGO3 : Aside0 (goP ((linesOf (bl s) []).drop (i + 1)) (i + 1) st = parseP (bl s)) := ⟨HGO2.out⟩
            clear HGO2 HERR
            go_wp2_with fail
            go_roundw
            case rel => exact ⟨i + 1, st, v, rfl, by first | rfl | (rw [hw8]; rfl), HI1.out, hsd, HGO3, HAC⟩
            case measure => first | exact HMS.out | (rw [hw8]; exact HMS.out)
          · have hxp : 0 < x.size := by omega
            have hxe : (x = ⟨#[]⟩) = False := eq_false (fun h => c2 (by rw [h]; rfl))
            have hbt := bt_is x 0 hxp
            have hne : (x.toList = []) = False := eq_false (fun h => by
              have h2 := bl_len x
              rw [ByteArray.toList_eq] at h
              rw [show bl x = [] from h] at h2
              simp at h2; omega)
            have hne3 : (x.toList == []) = false := by rw [beq_eq_false_iff_ne]; intro h; rw [h] at hne; exact hne.mp rfl
            have hbx : bl x = x[0]'hxp :: (bl x).drop 1 := by have := bl_drop x 0 hxp; rwa [List.drop_zero] at this
            have HST : Aside0 (stepP (bl x) st = if x[0]'hxp = 35 then (0, st) else if st.said = 20000 then (246, st) else if st.said = 0 then (codeRoom (wordsOf (bl x)), ⟨1, numN (bl ((wordsOf (bl x)).getD 1 ByteArray.empty)), numN (bl ((wordsOf (bl x)).getD 2 ByteArray.empty)), st.acts⟩)
                else if kindR ((wordsOf (bl x)).getD 0 ByteArray.empty) = 0 then (242, st)
                else (codeR (kindR ((wordsOf (bl x)).getD 0 ByteArray.empty)) (wordsOf (bl x)).tail, ⟨st.said + 1, st.p0, st.p1, st.acts ++ [actR (kindR ((wordsOf (bl x)).getD 0 ByteArray.empty)) (wordsOf (bl x)).tail]⟩)) := ⟨by
              unfold stepP
              rw [if_neg (show ¬ 262144 < (bl x).length by rw [bl_len]; exact c1)]
              by_cases h : x[0]'hxp = 35
              · rw [if_pos h, if_pos (.inr (by rw [hbx, h]; rfl))]
              · rw [if_neg h, if_neg]
                rintro (h2 | h2)
                · rw [hbx] at h2; cases h2
                · rw [hbx] at h2; injection h2 with h2; exact h h2⟩
            clear hbx
            by_cases c3 : x[0]'hxp = 35
            · have hx35b : ((((x[0]'hxp).toNat : Nat) : Int) = 35) = True := eq_true (by rw [c3]; rfl)
              have hx35q : ((((x[0]'hxp).toNat : Nat) : Int) == 35) = true := by rw [c3]; rfl
              have hx35d : decide ((((x[0]'hxp).toNat : Nat) : Int) = 35) = true := by rw [c3]; rfl
              have HGO3 : Aside0 (goP ((linesOf (bl s) []).drop (i + 1)) (i + 1) st = parseP (bl s)) := ⟨by rw [← HGO2.out, HST.out, if_pos c3]; rfl⟩
              clear c3 HST HGO2 HERR
              go_wp2_with fail
              all_goals go_roundw
              all_goals first
                | exact ⟨i + 1, st, v, rfl, by first | rfl | (rw [hw8]; rfl), HI1.out, hsd, HGO3, HAC⟩
                | exact HMS.out
                | (rw [hw8]; exact HMS.out)
            · have hx35 : ∀ h : (0 : Int).toNat < x.size, (((x[(0 : Int).toNat]'h).toNat : Nat) : Int) = 35 → False := fun _ h => c3 (by
                apply UInt8.toNat_inj.1
                show (x[0]'hxp).toNat = 35
                have h' : (((x[0]'hxp).toNat : Nat) : Int) = 35 := h
                omega)
              have hx35b : ((((x[0]'hxp).toNat : Nat) : Int) = 35) = False := eq_false (fun h => hx35 hxp h)
              have hx35q : ((((x[0]'hxp).toNat : Nat) : Int) == 35) = false := by rw [beq_eq_false_iff_ne]; exact fun h => hx35 hxp h
              have hx35d : decide ((((x[0]'hxp).toNat : Nat) : Int) = 35) = false := decide_eq_false (fun h => hx35 hxp h)
              clear hx35
              have HSTP : Aside0 (stepP (bl x) st = if st.said = 20000 then (246, st) else if st.said = 0 then (codeRoom (wordsOf (bl x)), ⟨1, numN (bl ((wordsOf (bl x)).getD 1 ByteArray.empty)), numN (bl ((wordsOf (bl x)).getD 2 ByteArray.empty)), st.acts⟩)
                else (codeA (wordsOf (bl x)), if kindR ((wordsOf (bl x)).getD 0 ByteArray.empty) = 0 then st else ⟨st.said + 1, st.p0, st.p1, st.acts ++ [actA (wordsOf (bl x))]⟩)) := ⟨by
                rw [HST.out, if_neg c3]
                by_cases h1 : st.said = 20000
                · rw [if_pos h1, if_pos h1]
                · rw [if_neg h1, if_neg h1]
                  by_cases h2 : st.said = 0
                  · rw [if_pos h2, if_pos h2]
                  · rw [if_neg h2, if_neg h2]
                    unfold codeA actA
                    by_cases h3 : kindR ((wordsOf (bl x)).getD 0 ByteArray.empty) = 0
                    · rw [if_pos h3, if_pos h3, if_pos h3]
                    · rw [if_neg h3, if_neg h3, if_neg h3]⟩
              have hw7 : wrap64 ((st.said : Int) + 1) = (st.said : Int) + 1 := wrap_next st.said (by omega)
              clear c3 HST
              by_cases c4 : st.said = 20000
              · have b4 : decide ((st.said : Int) = 20000) = true := decide_eq_true (by omega)
                have b4q : ((st.said : Int) == 20000) = true := by rw [beq_iff_eq]; omega
                have b4p : ((st.said : Int) = 20000) = True := eq_true (by omega)
                have HPP := Aside0.mk (HERR.out 246 (by rw [HSTP.out, if_pos c4]) (by decide))
                obtain ⟨w2, hst, h1, h2, h3⟩ := err_end HAC.out.2.below HAC.out.2.two ((i : Int) + 1) 246
                have HST := Aside0.mk hst
                have HEN := Aside0.mk (And.intro h1 (And.intro h2 (And.intro h3 HAC.out.2.below.size)))
                clear hst h1 h2 h3 c4 HSTP HGO2 HERR
                go_wp2_with (refine run_event rfl rfl rfl rfl rfl HST.out ?_)
                refine bodyPost_ret (results_ct rfl _ _ w.heap.size 24 #[.int .i64 0, .int .i64 0, .slice none 0 0] (0, 0) _ rfl HEN.out.1 Tryz.underlying24 rfl (by kernel_rfl)) rfl ?_
                exact err_post HPP.out (by decide) HEN.out.2.1 HEN.out.2.2.1 HEN.out.2.2.2
              · have b4 : decide ((st.said : Int) = 20000) = false := decide_eq_false (by omega)
                have b4q : ((st.said : Int) == 20000) = false := by rw [beq_eq_false_iff_ne]; omega
                have b4p : ((st.said : Int) = 20000) = False := eq_false (by omega)
                go_wp2_with fail
                refine (split_calls x ⟨#[32]⟩ wr (HE.out.2.below HAC.out.2.below) (by have := HXS.out; omega) (by decide)).mono ?_
                rintro e w2 ⟨rfl, hw2⟩
                rw [(split_words x).1] at hw2
                rw [← (split_words x).2]
                obtain ⟨L, hL⟩ : ∃ L, L = (wordsOf (bl x)).length := ⟨_, rfl⟩
                rw [← hL]
                obtain ⟨hLI, hR2, hWL⟩ := line_in HE.out.1 HAC.out.2 HXS.out hw2
                have HL2 := Aside0.mk (And.intro hLI (And.intro hR2 hWL))
                have HLL := Aside0.mk hL
                have hAL := HAC.out.1
                clear hw2 hLI hR2 hWL hL
                by_cases c5 : st.said = 0
                · have HS5 : Aside0 (stepP (bl x) st = (codeRoom (wordsOf (bl x)), ⟨1, numN (bl ((wordsOf (bl x)).getD 1 ByteArray.empty)), numN (bl ((wordsOf (bl x)).getD 2 ByteArray.empty)), st.acts⟩)) := ⟨by rw [HSTP.out, if_neg c4, if_pos c5]⟩
                  obtain ⟨kc, hkc⟩ : ∃ kc, kc = codeRoom (wordsOf (bl x)) := ⟨_, rfl⟩
                  have hcall := line_room w2 (w.heap.size + 1) st.p0 st.p1 v (some ⟨wr.heap.size, 0, none⟩) (wordsOf (bl x)) (wordsOf (bl x)).length (by have := HL2.out.1; rw [if_pos c5] at this; exact this) (Nat.le_refl _) (by have := HL2.out.2.2; omega)
                  rw [← hkc, ← HLL.out] at hcall
                  have HKC := Aside0.mk hkc
                  clear hkc
                  go_wp2_with fail
                  refine hcall.mono ?_
                  rintro e w3 ⟨rfl, cs', hw3, hc0⟩
                  clear hcall
                  by_cases c6 : kc = 0
                  · have H3 := Aside0.mk ((HL2.out.2.1.room (q0 := numN (bl ((wordsOf (bl x)).getD 1 ByteArray.empty))) (q1 := numN (bl ((wordsOf (bl x)).getD 2 ByteArray.empty))) (ql := 1) hw3).2.2 (hc0 c6))
                    have HGO3 : Aside0 (goP ((linesOf (bl s) []).drop (i + 1)) (i + 1) ⟨1, numN (bl ((wordsOf (bl x)).getD 1 ByteArray.empty)), numN (bl ((wordsOf (bl x)).getD 2 ByteArray.empty)), st.acts⟩ = parseP (bl s)) := ⟨by rw [← HGO2.out, HS5.out, if_pos (by rw [← HKC.out, c6])]⟩
                    have H5 : Aside0 ((st.said : Int) + 1 = ((1 : Nat) : Int)) := ⟨by omega⟩
                    have H6 : Aside0 (st.acts.length ≤ 1) := ⟨by omega⟩
                    subst c6
                    clear hw3 hc0 HS5 HGO2 HERR HKC HL2
                    go_wp2_with fail
                    go_roundw
                    case rel => exact ⟨i + 1, ⟨1, numN (bl ((wordsOf (bl x)).getD 1 ByteArray.empty)), numN (bl ((wordsOf (bl x)).getD 2 ByteArray.empty)), st.acts⟩, v, by first | rfl | rw [H5.out], rfl, HI1.out, (show (1 : Nat) ≤ 20000 by decide), HGO3, ⟨H6.out, H3.out⟩⟩
                    case measure => exact HMS.out
                  · have hkn : (kc != 0) = true := by rw [bne_iff_ne]; exact c6
                    have hkd : decide (kc = 0) = false := decide_eq_false c6
                    have hkp : (kc = 0) = False := eq_false c6
                    have HPP := Aside0.mk (HERR.out kc (by rw [HS5.out, HKC.out]) c6)
                    have HK6 := Aside0.mk c6
                    obtain ⟨hb3, ht3, _⟩ := HL2.out.2.1.room (q0 := 0) (q1 := 0) (ql := 1) hw3
                    obtain ⟨w4, hst, h1, h2, h3⟩ := err_end hb3 ht3 ((i : Int) + 1) kc
                    have HST := Aside0.mk hst
                    have HEN := Aside0.mk (And.intro h1 (And.intro h2 (And.intro h3 hb3.size)))
                    clear hst h1 h2 h3 hb3 ht3 hw3 hc0 HS5 HGO2 HERR HKC HL2 c6
                    go_wp2_with (refine run_event rfl rfl rfl rfl rfl HST.out ?_)
                    refine bodyPost_ret (results_ct rfl _ _ w.heap.size 24 #[.int .i64 0, .int .i64 0, .slice none 0 0] (0, 0) _ rfl HEN.out.1 Tryz.underlying24 rfl (by kernel_rfl)) rfl ?_
                    exact err_post HPP.out HK6.out HEN.out.2.1 HEN.out.2.2.1 HEN.out.2.2.2
                · have HS5 : Aside0 (stepP (bl x) st = (codeA (wordsOf (bl x)), if kindR ((wordsOf (bl x)).getD 0 ByteArray.empty) = 0 then st else ⟨st.said + 1, st.p0, st.p1, st.acts ++ [actA (wordsOf (bl x))]⟩)) := ⟨by rw [HSTP.out, if_neg c4, if_neg c5]⟩
                  obtain ⟨kc, hkc⟩ : ∃ kc, kc = codeA (wordsOf (bl x)) := ⟨_, rfl⟩
                  have HR2 : Aside0 (RdAt w s st.p0 st.p1 1 v st.acts w2) := ⟨by have := HL2.out.2.1; rw [if_neg c5] at this; exact this⟩
                  have hcall := line_act w2 (w.heap.size + 1) (w.heap.size + 3) st.p0 st.p1 v st.acts (some ⟨wr.heap.size, 0, none⟩) (wordsOf (bl x)) (wordsOf (bl x)).length (by have := HL2.out.1; rw [if_neg c5] at this; exact this) (Nat.le_refl _) (by have := HL2.out.2.2; omega) (by omega) HR2.out.size HR2.out.acts (by omega)
                  rw [← hkc, ← HLL.out] at hcall
                  have HKC := Aside0.mk hkc
                  clear hkc
                  go_wp2_with fail
                  refine hcall.mono ?_
                  rintro e w3 ⟨rfl, hw3, hc0⟩
                  clear hcall
                  by_cases c6 : kc = 0
                  · obtain ⟨v', hb9, hS9⟩ := hc0 c6
                    have H3 := Aside0.mk ((HR2.out.act (v' := v') (ql := 1) (acts' := st.acts ++ [actA (wordsOf (bl x))]) hw3).2.2 hb9 hS9)
                    have HKN : Aside0 (kindR ((wordsOf (bl x)).getD 0 ByteArray.empty) ≠ 0) := ⟨fun h => by
                      have h9 := HKC.out
                      unfold codeA at h9
                      rw [if_pos h, c6] at h9
                      cases h9⟩
                    have HGO3 : Aside0 (goP ((linesOf (bl s) []).drop (i + 1)) (i + 1) ⟨st.said + 1, st.p0, st.p1, st.acts ++ [actA (wordsOf (bl x))]⟩ = parseP (bl s)) := ⟨by rw [← HGO2.out, HS5.out, if_pos (show codeA (wordsOf (bl x)) = 0 by rw [← HKC.out, c6]), if_neg HKN.out]⟩
                    have H5 : Aside0 ((st.said : Int) + 1 = ((st.said + 1 : Nat) : Int)) := ⟨by omega⟩
                    have H6 : Aside0 ((st.acts ++ [actA (wordsOf (bl x))]).length ≤ st.said + 1) := ⟨by simp; omega⟩
                    have H7 : Aside0 (st.said + 1 ≤ 20000) := ⟨by omega⟩
                    subst c6
                    clear hw3 hc0 HS5 HGO2 HERR HKC HL2 hb9 hS9 HKN HR2
                    go_wp2_with fail
                    go_roundw
                    case rel => exact ⟨i + 1, ⟨st.said + 1, st.p0, st.p1, st.acts ++ [actA (wordsOf (bl x))]⟩, v', by first | rfl | rw [H5.out], rfl, HI1.out, H7.out, HGO3, ⟨H6.out, H3.out⟩⟩
                    case measure => exact HMS.out
                  · have hkn : (kc != 0) = true := by rw [bne_iff_ne]; exact c6
                    have hkd : decide (kc = 0) = false := decide_eq_false c6
                    have hkp : (kc = 0) = False := eq_false c6
                    have HPP := Aside0.mk (HERR.out kc (by rw [HS5.out, HKC.out]) c6)
                    have HK6 := Aside0.mk c6
                    obtain ⟨hb3, ht3, _⟩ := HR2.out.act (v' := v) (ql := 1) (acts' := []) hw3
                    obtain ⟨w4, hst, h1, h2, h3⟩ := err_end hb3 ht3 ((i : Int) + 1) kc
                    have HST := Aside0.mk hst
                    have HEN := Aside0.mk (And.intro h1 (And.intro h2 (And.intro h3 hb3.size)))
                    clear hst h1 h2 h3 hb3 ht3 hw3 hc0 HS5 HGO2 HERR HKC HL2 c6 HR2
                    go_wp2_with (refine run_event rfl rfl rfl rfl rfl HST.out ?_)
                    refine bodyPost_ret (results_ct rfl _ _ w.heap.size 24 #[.int .i64 0, .int .i64 0, .slice none 0 0] (0, 0) _ rfl HEN.out.1 Tryz.underlying24 rfl (by kernel_rfl)) rfl ?_
                    exact err_post HPP.out HK6.out HEN.out.2.1 HEN.out.2.2.1 HEN.out.2.2.2
      · have hiM : (N + 1) = i := by omega
        subst hiM
        have b1 : decide (((N : Int) + 1) < ((N : Int) + 1)) = false := decide_eq_false (by omega)
        have HEND : Aside0 ((if st.said = 0 then (((0, 0, []), 0, 240) : (Int × Int × List S31) × Int × Int) else ((st.p0, st.p1, st.acts), 0, 0)) = parseP (bl s)) := ⟨by
          rw [← HGO.out, List.drop_of_length_le (by rw [← pieces_lines s, HM.out.1, List.length_map, List.length_take]; omega)]
          rfl⟩
        have hrd := HAC.out.2.rd
        by_cases c5 : st.said = 0
        · rw [if_pos c5] at hrd
          have k3 : wr.cell? ⟨w.heap.size + 1, 3, none⟩ = some (.int .i64 0) := by rw [blk_cell hrd]; rfl
          have HPP : Aside0 (parseP (bl s) = ((0, 0, []), 0, 240)) := ⟨by rw [← HEND.out, if_pos c5]⟩
          obtain ⟨w2, hst, h1, h2, h3⟩ := err_end HAC.out.2.below HAC.out.2.two 0 240
          have HST := Aside0.mk hst
          have HEN := Aside0.mk (And.intro h1 (And.intro h2 (And.intro h3 HAC.out.2.below.size)))
          clear hst h1 h2 h3 c5 HEND hrd
          go_wp2_with (refine run_event rfl rfl rfl rfl rfl HST.out ?_)
          refine bodyPost_ret (results_ct rfl _ _ w.heap.size 24 #[.int .i64 0, .int .i64 0, .slice none 0 0] (0, 0) _ rfl HEN.out.1 Tryz.underlying24 rfl (by kernel_rfl)) rfl ?_
          exact err_post HPP.out (by decide) HEN.out.2.1 HEN.out.2.2.1 HEN.out.2.2.2
        · rw [if_neg c5] at hrd
          have k0 : wr.cell? ⟨w.heap.size + 1, 0, none⟩ = some (.int .i64 st.p0) := by rw [blk_cell hrd]; rfl
          have k1 : wr.cell? ⟨w.heap.size + 1, 1, none⟩ = some (.int .i64 st.p1) := by rw [blk_cell hrd]; rfl
          have k2 : wr.cell? ⟨w.heap.size + 1, 2, none⟩ = some v := by rw [blk_cell hrd]; rfl
          have k3 : wr.cell? ⟨w.heap.size + 1, 3, none⟩ = some (.int .i64 1) := by rw [blk_cell hrd]; rfl
          have HPP : Aside0 (parseP (bl s) = ((st.p0, st.p1, st.acts), 0, 0)) := ⟨by rw [← HEND.out, if_neg c5]⟩
          obtain ⟨Av, cv, rfl⟩ := Kd.R_slice (Kd.S_R HAC.out.2.acts)
          obtain ⟨c2, hc2, hb2⟩ := HAC.out.2.two
          obtain ⟨w2, hst, hW2⟩ := store3 hb2 hc2 (.int .i64 st.p0) (.int .i64 st.p1) (.slice Av st.acts.length cv) rfl rfl rfl rfl
          have HST := Aside0.mk hst
          have HEN := Aside0.mk hW2
          clear hst hW2 c5 HEND hrd
          go_wp2_with (refine run_event rfl rfl rfl rfl rfl HST.out ?_)
          refine bodyPost_ret (results_ct rfl _ _ w.heap.size 24 #[.int .i64 st.p0, .int .i64 st.p1, .slice Av st.acts.length cv] (0, 0) _ rfl HEN.out.at_ Tryz.underlying24 rfl (by kernel_rfl)) rfl ?_
          refine ⟨.slice Av st.acts.length cv, .nilIface, by rw [HPP.out]; rfl, HAC.out.2.below.trans (HEN.out.below (Nat.le_refl _) HAC.out.2.below.size), ?_, fun _ => rfl, fun h => by rw [HPP.out] at h; exact absurd rfl h⟩
          rw [HPP.out]
          have hsz := HAC.out.2.size
          exact Kd.S_lower (Kd.S_mono (Kd.S_step (Kd.S_bound HAC.out.2.acts) (fun k hk hlt => HEN.out.block k hlt (by have := hk.2.1; omega))) (fun _ _ => trivial)) (Nat.le_add_right _ 3)
  | true =>
    go_wp2_with fail
    have HM : Aside0 (mOf s = N ∧ N ≤ (piecesOf s).length) := ⟨by
      have hm : mOf s = N := by
        unfold mOf
        rw [← HN.out, hx]
        rw [if_pos (HBX.out.1 (by trivial))]
      exact ⟨hm, by rw [← hm]; exact mOf_le s⟩⟩
    have HMZ : Aside0 (N ≤ 1073741825) := ⟨by omega⟩
    clear hw17 hNp hN0 hx hc1 hbq
    go_loopw [5, 28] (fun v5 v28 wr => ∃ (i : Nat) (st : StP) (v : Value), v5 = .int .i64 (st.said : Int) ∧ v28 = .int .i64 (i : Int) ∧ i ≤ N ∧ st.said ≤ 20000 ∧ Aside0 (goP ((linesOf (bl s) []).drop i) i st = parseP (bl s)) ∧ Aside0 (st.acts.length ≤ st.said ∧ RdAt w s st.p0 st.p1 (if st.said = 0 then 0 else 1) v st.acts wr)) (fun _ i _ => N - (intOf i).toNat)
    case atStart => exact ⟨0, ⟨0, 0, 0, []⟩, .slice none 0 0, rfl, rfl, Nat.zero_le _, Nat.zero_le _, ⟨rfl⟩, ⟨Nat.le_refl _, HP.out⟩⟩
    case round =>
      clear HP
      obtain ⟨i, st, v, rfl, rfl, hi, hsd, HGO, HAC⟩ := hrel
      by_cases hlt : i < N
      · have b1 : decide ((i : Int) < (N : Int)) = true := decide_eq_true (by omega)
        have p0 : (0 : Int) ≤ (i : Int) := by omega
        have p1 : (i : Int) < ((N : Nat) : Int) := by omega
        have p2 : (i : Int) < (N : Int) := by omega
        obtain ⟨x, hx⟩ : ∃ x, (piecesOf s).getD i ByteArray.empty = x := ⟨_, rfl⟩
        have hil : i < (piecesOf s).length := Nat.lt_of_lt_of_le hlt HM.out.2
        have hcell := piece_cell HAC.out.2 hil
        rw [hx] at hcell
        have HGO2 : Aside0 ((if (stepP (bl x) st).1 = 0 then goP ((linesOf (bl s) []).drop (i + 1)) (i + 1) (stepP (bl x) st).2 else ((0, 0, []), (i + 1 : Int), (stepP (bl x) st).1)) = parseP (bl s)) := ⟨by
          rw [← HGO.out]
          have hx2 : (linesOf (bl s) [])[i]? = some (bl x) := by
            rw [← pieces_lines s, HM.out.1, List.getElem?_map, List.getElem?_take_of_lt hlt, List.getElem?_eq_getElem hil, ← hx, List.getD_eq_getElem?_getD, List.getElem?_eq_getElem hil]
            rfl
          have hil2 : i < (linesOf (bl s) []).length := (List.getElem?_eq_some_iff.1 hx2).1
          have hd : (linesOf (bl s) []).drop i = bl x :: (linesOf (bl s) []).drop (i + 1) := by
            rw [List.drop_eq_getElem_cons hil2]
            congr 1
            rw [List.getElem?_eq_getElem hil2] at hx2
            injection hx2
          rw [hd]; rfl⟩
        have HERR : Aside0 (∀ c : Int, (stepP (bl x) st).1 = c → c ≠ 0 → parseP (bl s) = ((0, 0, []), (i : Int) + 1, c)) := ⟨fun c h1 h2 => by rw [← HGO2.out, h1, if_neg h2]⟩
        have HMS : Aside0 (N - (intOf (Value.int IntKind.i64 ((i : Int) + 1))).toNat < N - (intOf (Value.int IntKind.i64 (i : Int))).toNat) := ⟨meas_step _ _ hlt⟩
        have HI1 : Aside0 (i + 1 ≤ N) := ⟨hlt⟩
        have hw8 : wrap64 ((i : Int) + 1) = (i : Int) + 1 := wrap_next i (by have := HMZ.out; omega)
        clear hx HGO
        by_cases c1 : 262144 < x.size
        · have b2 : decide ((x.size : Int) > 262144) = true := decide_eq_true (by omega)
          have HPP := Aside0.mk (HERR.out 241 (by unfold stepP; rw [if_pos (by rw [bl_len]; exact c1)]) (by decide))
          obtain ⟨w2, hst, h1, h2, h3⟩ := err_end HAC.out.2.below HAC.out.2.two ((i : Int) + 1) 241
          have HST := Aside0.mk hst
          have HEN := Aside0.mk (And.intro h1 (And.intro h2 (And.intro h3 HAC.out.2.below.size)))
          clear hst h1 h2 h3
          go_wp2_with (refine run_event rfl rfl rfl rfl rfl HST.out ?_)
          refine bodyPost_ret (results_ct rfl _ _ w.heap.size 24 #[.int .i64 0, .int .i64 0, .slice none 0 0] (0, 0) _ rfl HEN.out.1 Tryz.underlying24 rfl (by kernel_rfl)) rfl ?_
          exact err_post HPP.out (by decide) HEN.out.2.1 HEN.out.2.2.1 HEN.out.2.2.2
        · have b2 : decide ((x.size : Int) > 262144) = false := decide_eq_false (by omega)
          have HXS : Aside0 (x.size ≤ 262144) := ⟨by omega⟩
          by_cases c2 : x.size = 0
          · have hx0 : x = ⟨#[]⟩ := by
              apply ByteArray.ext
              exact Array.eq_empty_of_size_eq_zero c2
            subst hx0
            have HGO3 : Aside0 (goP ((linesOf (bl s) []).drop (i + 1)) (i + 1) st = parseP (bl s)) := ⟨HGO2.out⟩
            clear HGO2 HERR
            go_wp2_with fail
            go_roundw
            case rel => exact ⟨i + 1, st, v, rfl, by first | rfl | (rw [hw8]; rfl), HI1.out, hsd, HGO3, HAC⟩
            case measure => first | exact HMS.out | (rw [hw8]; exact HMS.out)
          · have hxp : 0 < x.size := by omega
            have hxe : (x = ⟨#[]⟩) = False := eq_false (fun h => c2 (by rw [h]; rfl))
            have hbt := bt_is x 0 hxp
            have hne : (x.toList = []) = False := eq_false (fun h => by
              have h2 := bl_len x
              rw [ByteArray.toList_eq] at h
              rw [show bl x = [] from h] at h2
              simp at h2; omega)
            have hne3 : (x.toList == []) = false := by rw [beq_eq_false_iff_ne]; intro h; rw [h] at hne; exact hne.mp rfl
            have hbx : bl x = x[0]'hxp :: (bl x).drop 1 := by have := bl_drop x 0 hxp; rwa [List.drop_zero] at this
            have HST : Aside0 (stepP (bl x) st = if x[0]'hxp = 35 then (0, st) else if st.said = 20000 then (246, st) else if st.said = 0 then (codeRoom (wordsOf (bl x)), ⟨1, numN (bl ((wordsOf (bl x)).getD 1 ByteArray.empty)), numN (bl ((wordsOf (bl x)).getD 2 ByteArray.empty)), st.acts⟩)
                else if kindR ((wordsOf (bl x)).getD 0 ByteArray.empty) = 0 then (242, st)
                else (codeR (kindR ((wordsOf (bl x)).getD 0 ByteArray.empty)) (wordsOf (bl x)).tail, ⟨st.said + 1, st.p0, st.p1, st.acts ++ [actR (kindR ((wordsOf (bl x)).getD 0 ByteArray.empty)) (wordsOf (bl x)).tail]⟩)) := ⟨by
              unfold stepP
              rw [if_neg (show ¬ 262144 < (bl x).length by rw [bl_len]; exact c1)]
              by_cases h : x[0]'hxp = 35
              · rw [if_pos h, if_pos (.inr (by rw [hbx, h]; rfl))]
              · rw [if_neg h, if_neg]
                rintro (h2 | h2)
                · rw [hbx] at h2; cases h2
                · rw [hbx] at h2; injection h2 with h2; exact h h2⟩
            clear hbx
            by_cases c3 : x[0]'hxp = 35
            · have hx35b : ((((x[0]'hxp).toNat : Nat) : Int) = 35) = True := eq_true (by rw [c3]; rfl)
              have hx35q : ((((x[0]'hxp).toNat : Nat) : Int) == 35) = true := by rw [c3]; rfl
              have hx35d : decide ((((x[0]'hxp).toNat : Nat) : Int) = 35) = true := by rw [c3]; rfl
              have HGO3 : Aside0 (goP ((linesOf (bl s) []).drop (i + 1)) (i + 1) st = parseP (bl s)) := ⟨by rw [← HGO2.out, HST.out, if_pos c3]; rfl⟩
              clear c3 HST HGO2 HERR
              go_wp2_with fail
              all_goals go_roundw
              all_goals first
                | exact ⟨i + 1, st, v, rfl, by first | rfl | (rw [hw8]; rfl), HI1.out, hsd, HGO3, HAC⟩
                | exact HMS.out
                | (rw [hw8]; exact HMS.out)
            · have hx35 : ∀ h : (0 : Int).toNat < x.size, (((x[(0 : Int).toNat]'h).toNat : Nat) : Int) = 35 → False := fun _ h => c3 (by
                apply UInt8.toNat_inj.1
                show (x[0]'hxp).toNat = 35
                have h' : (((x[0]'hxp).toNat : Nat) : Int) = 35 := h
                omega)
              have hx35b : ((((x[0]'hxp).toNat : Nat) : Int) = 35) = False := eq_false (fun h => hx35 hxp h)
              have hx35q : ((((x[0]'hxp).toNat : Nat) : Int) == 35) = false := by rw [beq_eq_false_iff_ne]; exact fun h => hx35 hxp h
              have hx35d : decide ((((x[0]'hxp).toNat : Nat) : Int) = 35) = false := decide_eq_false (fun h => hx35 hxp h)
              clear hx35
              have HSTP : Aside0 (stepP (bl x) st = if st.said = 20000 then (246, st) else if st.said = 0 then (codeRoom (wordsOf (bl x)), ⟨1, numN (bl ((wordsOf (bl x)).getD 1 ByteArray.empty)), numN (bl ((wordsOf (bl x)).getD 2 ByteArray.empty)), st.acts⟩)
                else (codeA (wordsOf (bl x)), if kindR ((wordsOf (bl x)).getD 0 ByteArray.empty) = 0 then st else ⟨st.said + 1, st.p0, st.p1, st.acts ++ [actA (wordsOf (bl x))]⟩)) := ⟨by
                rw [HST.out, if_neg c3]
                by_cases h1 : st.said = 20000
                · rw [if_pos h1, if_pos h1]
                · rw [if_neg h1, if_neg h1]
                  by_cases h2 : st.said = 0
                  · rw [if_pos h2, if_pos h2]
                  · rw [if_neg h2, if_neg h2]
                    unfold codeA actA
                    by_cases h3 : kindR ((wordsOf (bl x)).getD 0 ByteArray.empty) = 0
                    · rw [if_pos h3, if_pos h3, if_pos h3]
                    · rw [if_neg h3, if_neg h3, if_neg h3]⟩
              have hw7 : wrap64 ((st.said : Int) + 1) = (st.said : Int) + 1 := wrap_next st.said (by omega)
              clear c3 HST
              by_cases c4 : st.said = 20000
              · have b4 : decide ((st.said : Int) = 20000) = true := decide_eq_true (by omega)
                have b4q : ((st.said : Int) == 20000) = true := by rw [beq_iff_eq]; omega
                have b4p : ((st.said : Int) = 20000) = True := eq_true (by omega)
                have HPP := Aside0.mk (HERR.out 246 (by rw [HSTP.out, if_pos c4]) (by decide))
                obtain ⟨w2, hst, h1, h2, h3⟩ := err_end HAC.out.2.below HAC.out.2.two ((i : Int) + 1) 246
                have HST := Aside0.mk hst
                have HEN := Aside0.mk (And.intro h1 (And.intro h2 (And.intro h3 HAC.out.2.below.size)))
                clear hst h1 h2 h3 c4 HSTP HGO2 HERR
                go_wp2_with (refine run_event rfl rfl rfl rfl rfl HST.out ?_)
                refine bodyPost_ret (results_ct rfl _ _ w.heap.size 24 #[.int .i64 0, .int .i64 0, .slice none 0 0] (0, 0) _ rfl HEN.out.1 Tryz.underlying24 rfl (by kernel_rfl)) rfl ?_
                exact err_post HPP.out (by decide) HEN.out.2.1 HEN.out.2.2.1 HEN.out.2.2.2
              · have b4 : decide ((st.said : Int) = 20000) = false := decide_eq_false (by omega)
                have b4q : ((st.said : Int) == 20000) = false := by rw [beq_eq_false_iff_ne]; omega
                have b4p : ((st.said : Int) = 20000) = False := eq_false (by omega)
                go_wp2_with fail
                refine (split_calls x ⟨#[32]⟩ wr (HE.out.2.below HAC.out.2.below) (by have := HXS.out; omega) (by decide)).mono ?_
                rintro e w2 ⟨rfl, hw2⟩
                rw [(split_words x).1] at hw2
                rw [← (split_words x).2]
                obtain ⟨L, hL⟩ : ∃ L, L = (wordsOf (bl x)).length := ⟨_, rfl⟩
                rw [← hL]
                obtain ⟨hLI, hR2, hWL⟩ := line_in HE.out.1 HAC.out.2 HXS.out hw2
                have HL2 := Aside0.mk (And.intro hLI (And.intro hR2 hWL))
                have HLL := Aside0.mk hL
                have hAL := HAC.out.1
                clear hw2 hLI hR2 hWL hL
                by_cases c5 : st.said = 0
                · have HS5 : Aside0 (stepP (bl x) st = (codeRoom (wordsOf (bl x)), ⟨1, numN (bl ((wordsOf (bl x)).getD 1 ByteArray.empty)), numN (bl ((wordsOf (bl x)).getD 2 ByteArray.empty)), st.acts⟩)) := ⟨by rw [HSTP.out, if_neg c4, if_pos c5]⟩
                  obtain ⟨kc, hkc⟩ : ∃ kc, kc = codeRoom (wordsOf (bl x)) := ⟨_, rfl⟩
                  have hcall := line_room w2 (w.heap.size + 1) st.p0 st.p1 v (some ⟨wr.heap.size, 0, none⟩) (wordsOf (bl x)) (wordsOf (bl x)).length (by have := HL2.out.1; rw [if_pos c5] at this; exact this) (Nat.le_refl _) (by have := HL2.out.2.2; omega)
                  rw [← hkc, ← HLL.out] at hcall
                  have HKC := Aside0.mk hkc
                  clear hkc
                  go_wp2_with fail
                  refine hcall.mono ?_
                  rintro e w3 ⟨rfl, cs', hw3, hc0⟩
                  clear hcall
                  by_cases c6 : kc = 0
                  · have H3 := Aside0.mk ((HL2.out.2.1.room (q0 := numN (bl ((wordsOf (bl x)).getD 1 ByteArray.empty))) (q1 := numN (bl ((wordsOf (bl x)).getD 2 ByteArray.empty))) (ql := 1) hw3).2.2 (hc0 c6))
                    have HGO3 : Aside0 (goP ((linesOf (bl s) []).drop (i + 1)) (i + 1) ⟨1, numN (bl ((wordsOf (bl x)).getD 1 ByteArray.empty)), numN (bl ((wordsOf (bl x)).getD 2 ByteArray.empty)), st.acts⟩ = parseP (bl s)) := ⟨by rw [← HGO2.out, HS5.out, if_pos (by rw [← HKC.out, c6])]⟩
                    have H5 : Aside0 ((st.said : Int) + 1 = ((1 : Nat) : Int)) := ⟨by omega⟩
                    have H6 : Aside0 (st.acts.length ≤ 1) := ⟨by omega⟩
                    subst c6
                    clear hw3 hc0 HS5 HGO2 HERR HKC HL2
                    go_wp2_with fail
                    go_roundw
                    case rel => exact ⟨i + 1, ⟨1, numN (bl ((wordsOf (bl x)).getD 1 ByteArray.empty)), numN (bl ((wordsOf (bl x)).getD 2 ByteArray.empty)), st.acts⟩, v, by first | rfl | rw [H5.out], rfl, HI1.out, (show (1 : Nat) ≤ 20000 by decide), HGO3, ⟨H6.out, H3.out⟩⟩
                    case measure => exact HMS.out
                  · have hkn : (kc != 0) = true := by rw [bne_iff_ne]; exact c6
                    have hkd : decide (kc = 0) = false := decide_eq_false c6
                    have hkp : (kc = 0) = False := eq_false c6
                    have HPP := Aside0.mk (HERR.out kc (by rw [HS5.out, HKC.out]) c6)
                    have HK6 := Aside0.mk c6
                    obtain ⟨hb3, ht3, _⟩ := HL2.out.2.1.room (q0 := 0) (q1 := 0) (ql := 1) hw3
                    obtain ⟨w4, hst, h1, h2, h3⟩ := err_end hb3 ht3 ((i : Int) + 1) kc
                    have HST := Aside0.mk hst
                    have HEN := Aside0.mk (And.intro h1 (And.intro h2 (And.intro h3 hb3.size)))
                    clear hst h1 h2 h3 hb3 ht3 hw3 hc0 HS5 HGO2 HERR HKC HL2 c6
                    go_wp2_with (refine run_event rfl rfl rfl rfl rfl HST.out ?_)
                    refine bodyPost_ret (results_ct rfl _ _ w.heap.size 24 #[.int .i64 0, .int .i64 0, .slice none 0 0] (0, 0) _ rfl HEN.out.1 Tryz.underlying24 rfl (by kernel_rfl)) rfl ?_
                    exact err_post HPP.out HK6.out HEN.out.2.1 HEN.out.2.2.1 HEN.out.2.2.2
                · have HS5 : Aside0 (stepP (bl x) st = (codeA (wordsOf (bl x)), if kindR ((wordsOf (bl x)).getD 0 ByteArray.empty) = 0 then st else ⟨st.said + 1, st.p0, st.p1, st.acts ++ [actA (wordsOf (bl x))]⟩)) := ⟨by rw [HSTP.out, if_neg c4, if_neg c5]⟩
                  obtain ⟨kc, hkc⟩ : ∃ kc, kc = codeA (wordsOf (bl x)) := ⟨_, rfl⟩
                  have HR2 : Aside0 (RdAt w s st.p0 st.p1 1 v st.acts w2) := ⟨by have := HL2.out.2.1; rw [if_neg c5] at this; exact this⟩
                  have hcall := line_act w2 (w.heap.size + 1) (w.heap.size + 3) st.p0 st.p1 v st.acts (some ⟨wr.heap.size, 0, none⟩) (wordsOf (bl x)) (wordsOf (bl x)).length (by have := HL2.out.1; rw [if_neg c5] at this; exact this) (Nat.le_refl _) (by have := HL2.out.2.2; omega) (by omega) HR2.out.size HR2.out.acts (by omega)
                  rw [← hkc, ← HLL.out] at hcall
                  have HKC := Aside0.mk hkc
                  clear hkc
                  go_wp2_with fail
                  refine hcall.mono ?_
                  rintro e w3 ⟨rfl, hw3, hc0⟩
                  clear hcall
                  by_cases c6 : kc = 0
                  · obtain ⟨v', hb9, hS9⟩ := hc0 c6
                    have H3 := Aside0.mk ((HR2.out.act (v' := v') (ql := 1) (acts' := st.acts ++ [actA (wordsOf (bl x))]) hw3).2.2 hb9 hS9)
                    have HKN : Aside0 (kindR ((wordsOf (bl x)).getD 0 ByteArray.empty) ≠ 0) := ⟨fun h => by
                      have h9 := HKC.out
                      unfold codeA at h9
                      rw [if_pos h, c6] at h9
                      cases h9⟩
                    have HGO3 : Aside0 (goP ((linesOf (bl s) []).drop (i + 1)) (i + 1) ⟨st.said + 1, st.p0, st.p1, st.acts ++ [actA (wordsOf (bl x))]⟩ = parseP (bl s)) := ⟨by rw [← HGO2.out, HS5.out, if_pos (show codeA (wordsOf (bl x)) = 0 by rw [← HKC.out, c6]), if_neg HKN.out]⟩
                    have H5 : Aside0 ((st.said : Int) + 1 = ((st.said + 1 : Nat) : Int)) := ⟨by omega⟩
                    have H6 : Aside0 ((st.acts ++ [actA (wordsOf (bl x))]).length ≤ st.said + 1) := ⟨by simp; omega⟩
                    have H7 : Aside0 (st.said + 1 ≤ 20000) := ⟨by omega⟩
                    subst c6
                    clear hw3 hc0 HS5 HGO2 HERR HKC HL2 hb9 hS9 HKN HR2
                    go_wp2_with fail
                    go_roundw
                    case rel => exact ⟨i + 1, ⟨st.said + 1, st.p0, st.p1, st.acts ++ [actA (wordsOf (bl x))]⟩, v', by first | rfl | rw [H5.out], rfl, HI1.out, H7.out, HGO3, ⟨H6.out, H3.out⟩⟩
                    case measure => exact HMS.out
                  · have hkn : (kc != 0) = true := by rw [bne_iff_ne]; exact c6
                    have hkd : decide (kc = 0) = false := decide_eq_false c6
                    have hkp : (kc = 0) = False := eq_false c6
                    have HPP := Aside0.mk (HERR.out kc (by rw [HS5.out, HKC.out]) c6)
                    have HK6 := Aside0.mk c6
                    obtain ⟨hb3, ht3, _⟩ := HR2.out.act (v' := v) (ql := 1) (acts' := []) hw3
                    obtain ⟨w4, hst, h1, h2, h3⟩ := err_end hb3 ht3 ((i : Int) + 1) kc
                    have HST := Aside0.mk hst
                    have HEN := Aside0.mk (And.intro h1 (And.intro h2 (And.intro h3 hb3.size)))
                    clear hst h1 h2 h3 hb3 ht3 hw3 hc0 HS5 HGO2 HERR HKC HL2 c6 HR2
                    go_wp2_with (refine run_event rfl rfl rfl rfl rfl HST.out ?_)
                    refine bodyPost_ret (results_ct rfl _ _ w.heap.size 24 #[.int .i64 0, .int .i64 0, .slice none 0 0] (0, 0) _ rfl HEN.out.1 Tryz.underlying24 rfl (by kernel_rfl)) rfl ?_
                    exact err_post HPP.out HK6.out HEN.out.2.1 HEN.out.2.2.1 HEN.out.2.2.2
      · have hiM : N = i := by omega
        subst hiM
        have b1 : decide ((N : Int) < (N : Int)) = false := decide_eq_false (by omega)
        have HEND : Aside0 ((if st.said = 0 then (((0, 0, []), 0, 240) : (Int × Int × List S31) × Int × Int) else ((st.p0, st.p1, st.acts), 0, 0)) = parseP (bl s)) := ⟨by
          rw [← HGO.out, List.drop_of_length_le (by rw [← pieces_lines s, HM.out.1, List.length_map, List.length_take]; omega)]
          rfl⟩
        have hrd := HAC.out.2.rd
        by_cases c5 : st.said = 0
        · rw [if_pos c5] at hrd
          have k3 : wr.cell? ⟨w.heap.size + 1, 3, none⟩ = some (.int .i64 0) := by rw [blk_cell hrd]; rfl
          have HPP : Aside0 (parseP (bl s) = ((0, 0, []), 0, 240)) := ⟨by rw [← HEND.out, if_pos c5]⟩
          obtain ⟨w2, hst, h1, h2, h3⟩ := err_end HAC.out.2.below HAC.out.2.two 0 240
          have HST := Aside0.mk hst
          have HEN := Aside0.mk (And.intro h1 (And.intro h2 (And.intro h3 HAC.out.2.below.size)))
          clear hst h1 h2 h3 c5 HEND hrd
          go_wp2_with (refine run_event rfl rfl rfl rfl rfl HST.out ?_)
          refine bodyPost_ret (results_ct rfl _ _ w.heap.size 24 #[.int .i64 0, .int .i64 0, .slice none 0 0] (0, 0) _ rfl HEN.out.1 Tryz.underlying24 rfl (by kernel_rfl)) rfl ?_
          exact err_post HPP.out (by decide) HEN.out.2.1 HEN.out.2.2.1 HEN.out.2.2.2
        · rw [if_neg c5] at hrd
          have k0 : wr.cell? ⟨w.heap.size + 1, 0, none⟩ = some (.int .i64 st.p0) := by rw [blk_cell hrd]; rfl
          have k1 : wr.cell? ⟨w.heap.size + 1, 1, none⟩ = some (.int .i64 st.p1) := by rw [blk_cell hrd]; rfl
          have k2 : wr.cell? ⟨w.heap.size + 1, 2, none⟩ = some v := by rw [blk_cell hrd]; rfl
          have k3 : wr.cell? ⟨w.heap.size + 1, 3, none⟩ = some (.int .i64 1) := by rw [blk_cell hrd]; rfl
          have HPP : Aside0 (parseP (bl s) = ((st.p0, st.p1, st.acts), 0, 0)) := ⟨by rw [← HEND.out, if_neg c5]⟩
          obtain ⟨Av, cv, rfl⟩ := Kd.R_slice (Kd.S_R HAC.out.2.acts)
          obtain ⟨c2, hc2, hb2⟩ := HAC.out.2.two
          obtain ⟨w2, hst, hW2⟩ := store3 hb2 hc2 (.int .i64 st.p0) (.int .i64 st.p1) (.slice Av st.acts.length cv) rfl rfl rfl rfl
          have HST := Aside0.mk hst
          have HEN := Aside0.mk hW2
          clear hst hW2 c5 HEND hrd
          go_wp2_with (refine run_event rfl rfl rfl rfl rfl HST.out ?_)
          refine bodyPost_ret (results_ct rfl _ _ w.heap.size 24 #[.int .i64 st.p0, .int .i64 st.p1, .slice Av st.acts.length cv] (0, 0) _ rfl HEN.out.at_ Tryz.underlying24 rfl (by kernel_rfl)) rfl ?_
          refine ⟨.slice Av st.acts.length cv, .nilIface, by rw [HPP.out]; rfl, HAC.out.2.below.trans (HEN.out.below (Nat.le_refl _) HAC.out.2.below.size), ?_, fun _ => rfl, fun h => by rw [HPP.out] at h; exact absurd rfl h⟩
          rw [HPP.out]
          have hsz := HAC.out.2.size
          exact Kd.S_lower (Kd.S_mono (Kd.S_step (Kd.S_bound HAC.out.2.acts) (fun k hk hlt => HEN.out.block k hlt (by have := hk.2.1; omega))) (fun _ _ => trivial)) (Nat.le_add_right _ 3)
end Go.Proofs.YtkfjjmmpbfjhaaaGreatDoor.Tells
