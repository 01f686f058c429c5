/- The program's functions of script.Tell and the reference's, walked. Conditions: those that each theorem states. -/
import Derived.Test.YtkfjjmmpbfjhaaaGreatDoorBuild
import Derived.Test.YtkfjjmmpbfjhaaaGreatDoorScrPA
import Derived.Outline
import Derived.IntWalk
import Derived.WalkSpells
import Derived.Lib.ItoaNum
import Derived.Lib.AppendIntMem
import Derived.Lib.Replace
import Derived.Deep.QuietTactic
import Derived.BigQuiet
import Derived.Deep.MidRow
import Derived.ArgAppend
import Derived.Lib.AppendStr
import Derived.Lib.UnsafeStr
namespace Go.Proofs.YtkfjjmmpbfjhaaaGreatDoor.Tells
open Go.RowKit Go.Proofs.YtkfjjmmpbfjhaaaGreatDoor.PScriptActs Go.Proofs.YtkfjjmmpbfjhaaaGreatDoorW.PrintWords Go.Proofs.YtkfjjmmpbfjhaaaGreatDoorW.PrintLast Go.Proofs.YtkfjjmmpbfjhaaaGreatDoorW.PrintMore
attribute [local go_sem] max2_int min2_int max_two min_two max_three min_three max_four min_four
set_option linter.unusedVariables false
set_option linter.unusedSimpArgs false
def itoaB (n : Int) : ByteArray := ⟨(Lib.itoa n).toArray⟩
def Pow (w : World) : Prop := Lib.TabIs Tryz.prog w "internal/strconv.uint64pow10" .u64 Lib.pow10Tab
theorem info9 : (Tryz.prog.info? 9).map (fun i => (i.zero, i.size, i.bytes)) = some (some (.string ⟨#[]⟩), 1, 16) := by kernel_rfl
theorem number_calls (n : Int) (h0 : -9223372036854775808 ≤ n) (h1 : n ≤ 9223372036854775807) (w : World) (T : Pow w) :
    Calls Tryz.prog 33 #[.int .i64 n] w fun e w' => e = .returned (.string (itoaB n)) ∧ Below w.heap.size w w' := by
  have HT := Aside0.mk T
  clear T
  go_enter Tryz.func33, Tryz.ntmps33
  go_wp2_with fail
  refine (Tryz.strconv_Itoa n h0 h1 _ (by exact HT.out)).mono ?_; rintro e w' ⟨rfl, ⟨k, os, rfl⟩⟩
  go_wp2
  go_ret
  exact ⟨rfl, by first | exact Lib.below_grow _ _ (Nat.le_refl _) _ _ | exact below_grow _ _ (Nat.le_refl _) _ _⟩
def special : List UInt8 := [46, 95, 45, 58, 94, 43, 91, 93, 40, 41]
def plainI (c : Nat) : Bool := (decide (97 ≤ c) && decide (c ≤ 122)) || (decide (65 ≤ c) && decide (c ≤ 90)) || (decide (48 ≤ c) && decide (c ≤ 57)) || decide ((0 : Int) ≤ Lib.indexByte special c.toUInt8)
theorem plain_ref : ∀ c : Fin 256, kilnref24_plain.f ((c.val : Nat) : Int) = some (plainI c.val) := by decide +kernel
set_option maxHeartbeats 2000000 in
theorem plain_calls (c : Nat) (hc : c < 256) (w : World) :
    Calls Tryz.prog 101 #[.int .u8 (c : Int)] w fun e w' => e = .returned (.bool (plainI c)) ∧ Drawn0 w w' := by
  have hp : plainI c = ((decide ((97 : Int) ≤ c) && decide ((c : Int) ≤ 122)) || (decide ((65 : Int) ≤ c) && decide ((c : Int) ≤ 90)) || (decide ((48 : Int) ≤ c) && decide ((c : Int) ≤ 57)) || decide ((0 : Int) ≤ Lib.indexByte special c.toUInt8)) := by
    unfold plainI
    congr 1
    congr 1
    · congr 1 <;> congr 1 <;> (apply decide_eq_decide.2; omega)
    · congr 1 <;> (apply decide_eq_decide.2; omega)
  have hi : (c : Int).toNat.toUInt8 = c.toUInt8 := by rw [Int.toNat_natCast]
  have HP := Aside0.mk hp
  have HI := Aside0.mk hi
  clear hp hi
  have way : ∀ a1 a2 a3 a4 a5 a6 : Bool, decide ((97 : Int) ≤ c) = a1 → decide ((c : Int) ≤ 122) = a2 → decide ((65 : Int) ≤ c) = a3 → decide ((c : Int) ≤ 90) = a4 → decide ((48 : Int) ≤ c) = a5 → decide ((c : Int) ≤ 57) = a6 →
      Calls Tryz.prog 101 #[.int .u8 (c : Int)] w fun e w' => e = .returned (.bool ((a1 && a2) || (a3 && a4) || (a5 && a6) || decide ((0 : Int) ≤ Lib.indexByte special c.toUInt8))) ∧ Drawn0 w w' := by
    intro a1 a2 a3 a4 a5 a6 h1 h2 h3 h4 h5 h6
    cases a1 <;> cases a2 <;> cases a3 <;> cases a4 <;> cases a5 <;> cases a6
    all_goals
      go_enter Tryz.func101, Tryz.ntmps101
      go_wp2_with (go_at_call 119; refine (Tryz.strings_IndexByte _ _ _).mono ?_; rintro e w' ⟨rfl, rfl⟩)
      go_ret
      exact ⟨by first | rfl | (rw [HI.out]; rfl) | (simp [special]; done), by repeat (first | exact Drawn0.refl _ | apply Drawn0.step)⟩
  rw [HP.out]
  exact way _ _ _ _ _ _ rfl rfl rfl rfl rfl rfl
theorem info5 : (Tryz.prog.info? 5).map (fun i => (i.zero, i.size, i.bytes)) = some (some (.int .u8 0), 1, 1) := by kernel_rfl
/-- bytes that a call may append to, whatever mark lies behind them -/
def Buf (w : World) (base : Nat) (v : Value) (l : List UInt8) : Prop :=
  ∃ g cap, v = .slice (some ⟨g, 0, none⟩) l.length cap ∧ (base ≤ g ∧ g < w.heap.size) ∧ (l.length ≤ cap ∧ cap ≤ maxLen) ∧ w.rangeAt g 0 (Lib.byteCells l) ∧ w.there g 0 cap
theorem cell_heap {w w' : World} {g : Nat} (h : w'.heap[g]? = w.heap[g]?) (j : Nat) : w'.cell? ⟨g, j, none⟩ = w.cell? ⟨g, j, none⟩ ∧ w'.frozen? ⟨g, j, none⟩ = w.frozen? ⟨g, j, none⟩ := by
  constructor
  · exact World.cell?_of_block h
  · simp [World.frozen?, h]
theorem Buf.move {w w' : World} {base : Nat} {v : Value} {l : List UInt8} (h : Buf w base v l) (hs : w.heap.size ≤ w'.heap.size) (hk : ∀ k, base ≤ k → k < w.heap.size → w'.heap[k]? = w.heap[k]?) : Buf w' base v l := by
  obtain ⟨g, cap, e, ⟨h1, h2⟩, h3, h4, h5⟩ := h
  have hh := hk g h1 h2
  exact ⟨g, cap, e, ⟨h1, Nat.lt_of_lt_of_le h2 hs⟩, h3, fun j u hu => (cell_heap hh _).1.trans (h4 j u hu), fun j hj => by rw [(cell_heap hh _).1, (cell_heap hh _).2]; exact h5 j hj⟩
theorem Buf.below {w w' : World} {base : Nat} {v : Value} {l : List UInt8} (h : Buf w base v l) (hb : Below w.heap.size w w') : Buf w' base v l := h.move hb.size (fun k _ hk => hb.block k hk)
theorem Buf.form {w : World} {base : Nat} {v : Value} {l : List UInt8} (h : Buf w base v l) : ∃ g cap, v = .slice (some ⟨g, 0, none⟩) l.length cap ∧ base ≤ g := by
  obtain ⟨g, cap, e, ⟨h1, _⟩, _⟩ := h; exact ⟨g, cap, e, h1⟩
theorem below_setCells {base : Nat} (W : World) (g o : Nat) (vs : List Value) (h : base ≤ g) : Below base W (W.setCells g o vs) := by
  obtain ⟨h1, h2, h3, h4⟩ := setCells_same g vs o W
  exact ⟨h1, h2, h3, by omega, fun k hk => setCells_far vs o k (by omega)⟩
theorem buf_own {w' : World} {base : Nat} {v : Value} {l : List UInt8} (h : w'.ownsRow base 5 1 v l.length (Lib.byteCells l)) (hl : 0 < l.length) : Buf w' base v l := by
  rcases h.2 with ⟨_, h0⟩ | ⟨g, cap, cur, rfl, hg, hh, h1, h2, h3, h4⟩
  · omega
  · refine ⟨g, cap, rfl, ⟨hg, blk_lt hh⟩, ⟨h1, h2⟩, fun j u hu => ?_, fun j hj => ?_⟩
    · have := h.cells (g := g) rfl j u hu
      rw [add_plain] at this
      rw [Nat.zero_add]; exact this
    · rw [Nat.zero_add, blk_cell hh j]
      exact ⟨by rw [Array.getElem?_eq_getElem (by omega)]; rfl, blk_frozen hh j⟩
/-- what an append of elements gives -/
theorem buf_run (W : World) (base : Nat) (v : Value) (l ys : List UInt8) (hB : Buf W base v l) (ad : Addr) (c ty : Nat) (hc : ∀ j u, (Lib.byteCells ys)[j]? = some u → W.cell? (ad.add j) = some u) (hl : l.length + ys.length ≤ 140737488355328) (hbase : base ≤ W.heap.size) (hy : 0 < ys.length) :
    ∃ v1 w1, (Builtin.append_ #[72, 72] ty #[v, .slice (some ad) ys.length c]).run Tryz.prog W = .ok v1 w1 ∧ Buf w1 base v1 (l ++ ys) ∧ Below base W w1 := by
  obtain ⟨i0, hi, hzz⟩ := Option.map_eq_some_iff.1 info5
  simp only [Prod.mk.injEq] at hzz
  obtain ⟨hz0, hz1, hz2⟩ := hzz
  obtain ⟨g, cap, rfl, ⟨h1, h2⟩, ⟨h3, h3'⟩, h4, h5⟩ := hB
  have hone : ∀ u ∈ Lib.byteCells ys, u.oneCell' = true := fun u hu => by
    simp only [Lib.byteCells, List.mem_map] at hu
    obtain ⟨b, _, rfl⟩ := hu; rfl
  have hlen : (Lib.byteCells ys).length = ys.length := Lib.byteCells_length ys
  have happ : Lib.byteCells l ++ Lib.byteCells ys = Lib.byteCells (l ++ ys) := by simp [Lib.byteCells]
  by_cases hr : l.length + ys.length ≤ cap
  · have hrun := run_append_room_cells (P := Tryz.prog) W 72 ty 5 i0 Tryz.underlying72 hi g 0 l.length cap ad ys.length c (Lib.byteCells ys) (by rw [hlen, hz1]; omega) hc hone hr
      (fun j hj => by rw [hz1, hlen] at *; have := (h5 (l.length + j) (by omega)).1; simpa using this) (fun j hj => by rw [hz1, hlen] at *; have := (h5 (l.length + j) (by omega)).2; simpa using this)
    rw [hz1, Nat.mul_one, Nat.zero_add] at hrun
    have hth : W.there g l.length (Lib.byteCells ys).length := fun j hj => by have := h5 (l.length + j) (by omega); simpa using this
    refine ⟨_, _, hrun, ⟨g, cap, by rw [List.length_append], ⟨h1, by rw [(setCells_same g _ _ W).2.2.2]; exact h2⟩, ⟨by rw [List.length_append]; exact hr, h3'⟩, ?_, World.there_setCells h5 _ _ _⟩, below_setCells W g _ _ h1⟩
    intro j u hu
    rw [← happ] at hu
    by_cases hj : j < (Lib.byteCells l).length
    · rw [List.getElem?_append_left hj] at hu
      have := World.rangeAt_setCells_apart h4 g l.length (Lib.byteCells ys) (.inr (.inl (by rw [Lib.byteCells_length]; omega)))
      exact this j u hu
    · rw [List.getElem?_append_right (by omega)] at hu
      have := World.rangeAt_setCells_same W g l.length (Lib.byteCells ys) hth (j - (Lib.byteCells l).length) u hu
      rw [Lib.byteCells_length] at this hj
      rw [show l.length + (j - l.length) = 0 + j by omega] at this
      exact this
  · obtain ⟨v', w', hrun, r1, r2⟩ := run_append_arg_grows (P := Tryz.prog) W 72 ty 5 i0 (.int .u8 0) 1 1 Tryz.underlying72 hi hz0 hz1 hz2 rfl (by decide) ⟨g, 0, none⟩ l.length cap (Lib.byteCells l) (by rw [Lib.byteCells_length]; omega) (fun j u hu => by rw [Addr.add_lit]; exact h4 j u hu) ad ys.length c (Lib.byteCells ys) (by rw [hlen]; omega) hc (by omega) (by unfold maxLen; omega) (by omega)
    rw [happ, ← List.length_append] at r1
    refine ⟨v', w', hrun, buf_own (own_weaken r1 hbase) (by rw [List.length_append]; omega), ⟨r2.os, r2.tape, r2.output, r2.size, fun k hk => r2.block k (by omega) (by simp)⟩⟩
section
variable {ops : Array Oper} {rest : List Oper} {o : Oper} {a : Act} {Q : Exit → Act → World → Prop} {K : Act → World → Prop}
theorem buf_app (W : World) (base : Nat) (hgd : o.guard = none) (s x : Operand) (ho : o.op = .call { callee := .builtin .append, args := #[s, x], argTypes := #[72, 72] }) (v : Value) (l ys : List UInt8) (hs : a.eval s = v) (ad : Addr) (c n : Nat) (hx : a.eval x = .slice (some ad) n c) (hn : ys.length = n)
    (hB : Buf W base v l) (hc : ∀ j u, (Lib.byteCells ys)[j]? = some u → W.cell? (ad.add j) = some u) (hl : l.length + ys.length ≤ 140737488355328) (hbase : base ≤ W.heap.size) (hy : 0 < ys.length)
    (h : ∀ v1 w1, Buf w1 base v1 (l ++ ys) → Below base W w1 → wpList Tryz.prog ops Q rest (a.put o.dst v1) w1) : wpList Tryz.prog ops Q (o :: rest) a W := by
  subst hn
  obtain ⟨v1, w1, hr, hb1, hb2⟩ := buf_run W base v l ys hB ad c o.type hc hl hbase hy
  refine wpList_plain hgd fun K hK' => ?_
  unfold Oper.wp
  simp [execOp, ho, resolve, invoke, builtin, hs, hx, hr, Result.andThen]
  exact hK' _ _ (h v1 w1 hb1 hb2)
theorem buf_app_step (W : World) (base : Nat) (hw : Region.wanted o (yielded ops a.tmps) = true) (s x : Operand) (ho : o.op = .call { callee := .builtin .append, args := #[s, x], argTypes := #[72, 72] }) (v : Value) (l ys : List UInt8) (hs : a.eval s = v) (ad : Addr) (c n : Nat) (hx : a.eval x = .slice (some ad) n c) (hn : ys.length = n)
    (hB : Buf W base v l) (hc : ∀ j u, (Lib.byteCells ys)[j]? = some u → W.cell? (ad.add j) = some u) (hl : l.length + ys.length ≤ 140737488355328) (hbase : base ≤ W.heap.size) (hy : 0 < ys.length)
    (h : ∀ v1 w1, Buf w1 base v1 (l ++ ys) → Below base W w1 → K (a.put o.dst v1) w1) :
    if Region.wanted o (yielded ops a.tmps) = true then Oper.wp Tryz.prog o a W K Q else K (a.put o.dst undef) W := by
  subst hn
  obtain ⟨v1, w1, hr, hb1, hb2⟩ := buf_run W base v l ys hB ad c o.type hc hl hbase hy
  rw [if_pos hw]
  unfold Oper.wp execOp
  simp only [ho, resolve, invoke, builtin, Sem.run_bind, Sem.run_pure, Result.andThen_ok, List.map_toArray, List.map_cons, List.map_nil, hs, hx, hr]
  exact h v1 w1 hb1 hb2
end
theorem buf_new {W : World} {g cap base : Nat} {C : Array Value} {f : Nat × Nat} {l : List UInt8} (hh : W.heap[g]? = some (.cells C 5 f)) (hb : base ≤ g) (hf : ∀ j, j < cap → W.frozen? ⟨g, j, none⟩ = false) (hc : l.length ≤ cap ∧ cap ≤ maxLen) (hs : cap ≤ C.size)
    (hbytes : ∀ (j : Nat) (u : Value), (Lib.byteCells l)[j]? = some u → C[j]? = some u) : Buf W base (.slice (some ⟨g, 0, none⟩) l.length cap) l := by
  have hcell : ∀ j, W.cell? ⟨g, j, none⟩ = C[j]? := fun j => cell_of_row W g j C 5 f hh
  refine ⟨g, cap, rfl, ⟨hb, blk_lt hh⟩, hc, fun j u hu => ?_, fun j hj => ?_⟩
  · rw [Nat.zero_add, hcell]; exact hbytes j u hu
  · rw [Nat.zero_add, hcell]
    exact ⟨by rw [Array.getElem?_eq_getElem (by omega)]; rfl, hf j hj⟩
section
variable {ops : Array Oper} {rest : List Oper} {o : Oper} {a : Act} {Q : Exit → Act → World → Prop} {K : Act → World → Prop}
end
/-- 'string(b)' -/
theorem buf_string (W : World) (base : Nat) (v : Value) (l : List UInt8) (hB : Buf W base v l) : (convert 72 9 v).run Tryz.prog W = .ok (.string ⟨l.toArray⟩) W := by
  obtain ⟨g, cap, rfl, _, _, h4, _⟩ := hB
  refine run_convert_bytes_back W 72 9 5 ⟨g, 0, none⟩ cap l Tryz.underlying72 Tryz.underlying5 Tryz.underlying9 (fun j hj => ?_)
  rw [Addr.add_lit]
  exact h4 j _ (by simp [Lib.byteCells, List.getElem?_map, List.getElem?_eq_getElem hj])
end Go.Proofs.YtkfjjmmpbfjhaaaGreatDoor.Tells
