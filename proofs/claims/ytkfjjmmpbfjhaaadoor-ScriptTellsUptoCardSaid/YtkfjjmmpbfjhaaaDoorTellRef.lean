/- kilnref24.Tell, walked: what it answers of any answer. Conditions: those that the theorem states. -/
import Derived.Test.YtkfjjmmpbfjhaaaDoorTellOwn
import Derived.Test.YtkfjjmmpbfjhaaaDoorPScriptTellsx3
import Derived.Outline
import Derived.IntWalk
import Derived.WalkSpells
import Derived.Lib.ItoaNum
import Derived.Lib.ItoaLen
import Derived.Lib.SplitLaws
import Derived.Lib.AppendIntMem
import Derived.Lib.Replace
import Derived.Deep.QuietTactic
import Derived.BigQuiet
import Derived.Deep.MidRow
import Derived.ArgAppend
import Derived.Lib.AppendStr
import Derived.Lib.UnsafeStr
import Derived.Lib.SlBytesConst
namespace Go.Proofs.YtkfjjmmpbfjhaaaDoor.Tells
open Go.RowKit Go.Proofs.YtkfjjmmpbfjhaaaDoor.PScriptTells Go.Proofs.YtkfjjmmpbfjhaaaDoorW.PrintWords Go.Proofs.YtkfjjmmpbfjhaaaDoorW.PrintLast Go.Proofs.YtkfjjmmpbfjhaaaDoorW.PrintMore
attribute [local go_sem] max2_int min2_int max_two min_two max_three min_three max_four min_four
set_option linter.unusedVariables false
set_option linter.unusedSimpArgs false
theorem refWritten_calls' (s : ByteArray) (hs : s.size ≤ 1048576) (w : World) : Calls Tryd.prog 12 #[.string s] w fun e w' => e = .returned (.string (wordB s)) ∧ Below w.heap.size w w' := refWritten_calls s hs w
theorem number_ok (n : Int) (h : inI n) (w : World) (T : Pow w) : Calls Tryd.prog 11 #[.int .i64 n] w fun e w' => e = .returned (.string (itoaB n)) ∧ Below w.heap.size w w' := number_calls n h.1 h.2 w T
theorem itoaB_size (n : Int) (h : inI n) : (itoaB n).size ≤ 21 := by
  have := Lib.itoa_length_le n h.1 h.2
  unfold itoaB
  show (Lib.itoa n).toArray.size ≤ 21
  rw [List.size_toArray]; exact this
theorem wordB_size (s : ByteArray) (h : s.size ≤ 1048576) : (wordB s).size ≤ 3145729 := by
  have h1 := encw_len s.data.toList
  have h2 : s.data.toList.length = s.size := by rw [Array.length_toList]; rfl
  unfold wordB
  show (61 :: encw s.data.toList).toArray.size ≤ _
  rw [List.size_toArray, List.length_cons]; omega
def refHead (a : AnsT) : ByteArray := ({ data := #[97, 110, 115, 119, 101, 114, 32] } : ByteArray) ++ itoaB a.code ++ { data := #[32] } ++ itoaB a.num ++ { data := #[32] } ++ itoaB a.st ++ { data := #[32] } ++ itoaB a.used ++ { data := #[32] } ++ itoaB a.at_ ++ { data := #[32] } ++ wordB a.cls ++ { data := #[32] } ++ wordB a.sel ++ { data := #[10] }
theorem refHead_list (a : AnsT) : (refHead a).data.toList = headL a ++ [10] := by
  unfold refHead headL parts
  simp only [ByteArray.data_append, Array.toList_append, List.map_cons, List.map_nil, List.cons_append, List.nil_append, Lib.join_cons, Lib.joinTail, List.flatten_cons, List.flatten_nil, List.append_nil, List.append_assoc]
theorem conv_run (W : World) (base : Nat) (X : ByteArray) (hX : X.size ≤ 1000000000) (hb : base ≤ W.heap.size) : ∃ v w1, (convert 9 35 (.string X)).run Tryd.prog W = .ok v w1 ∧ Buf w1 base v X.data.toList ∧ Below W.heap.size W w1 := by
  have hrun := run_bytes_of_string (P := Tryd.prog) W 9 35 5 X Tryd.underlying9 Tryd.underlying35 Tryd.underlying5
  have hsl : X.data.toList.length = X.size := by rw [Array.length_toList]; rfl
  have hge := grownCap_ge W X.size 0 5
  have hcm : grownCap W X.size 0 5 ≤ maxLen := grownCap_le_maxLen W X.size 0 5 (by unfold maxLen; omega)
  refine ⟨_, _, hrun, ?_, ⟨rfl, rfl, rfl, by simp, fun k hk => heap_alloc_old W.drew _ (by exact hk)⟩⟩
  have hsz : (bytesRow X (grownCap W X.size 0 5)).size = grownCap W X.size 0 5 := by
    unfold bytesRow
    rw [Array.size_append, Array.size_map, Array.size_replicate]
    have : X.data.size = X.size := rfl
    omega
  have hh := heap_alloc_new W.drew (.cells (bytesRow X (grownCap W X.size 0 5)) 5 ((bytesRow X (grownCap W X.size 0 5)).size, (bytesRow X (grownCap W X.size 0 5)).size + 1))
  have hB := buf_new (base := base) (l := X.data.toList) (cap := grownCap W X.size 0 5) hh (by exact hb) (fun j hj => by
    unfold World.frozen?
    rw [hh]
    simp only
    rw [hsz]
    simp
    omega) ⟨by rw [hsl]; exact hge, hcm⟩ (by rw [hsz]; exact Nat.le_refl _) (fun j u hu => by
    unfold bytesRow
    have hj : j < X.data.toList.length := by have := (List.getElem?_eq_some_iff.1 hu).1; rw [Lib.byteCells_length] at this; exact this
    rw [Array.getElem?_append_left (by rw [Array.size_map]; rw [Array.length_toList] at hj; exact hj), Array.getElem?_map, ← Array.getElem?_toList]
    simpa [Lib.byteCells] using hu)
  rw [hsl] at hB
  exact hB
section
variable {ops : Array Oper} {rest : List Oper} {o : Oper} {a : Act} {Q : Exit → Act → World → Prop} {K : Act → World → Prop}
theorem conv_step (W : World) (base : Nat) (hw : Region.wanted o (yielded ops a.tmps) = true) (x : Operand) (ho : o.op = .convert 9 35 x) (X : ByteArray) (hx : a.eval x = .string X) (hX : X.size ≤ 1000000000) (hb : base ≤ W.heap.size)
    (h : ∀ v w1, Buf w1 base v X.data.toList → Below W.heap.size W w1 → K (a.put o.dst v) w1) : if Region.wanted o (yielded ops a.tmps) = true then Oper.wp Tryd.prog o a W K Q else K (a.put o.dst undef) W := by
  obtain ⟨v, w1, hr, hb1, hb2⟩ := conv_run W base X hX hb
  rw [if_pos hw]
  unfold Oper.wp execOp
  simp only [ho, Sem.run_bind, Sem.run_pure, Result.andThen_ok, hx, hr]
  exact h v w1 hb1 hb2
end
/-- what an append of a string gives -/
theorem buf_run_string2 (W : World) (base : Nat) (v : Value) (l : List UInt8) (hB : Buf W base v l) (s : ByteArray) (ty : Nat) (hl : l.length + s.size ≤ 140737488355328) (hbase : base ≤ W.heap.size) (hy : 0 < s.size) :
    ∃ v1 w1, (Builtin.append_ #[35, 9] ty #[v, .string s]).run Tryd.prog W = .ok v1 w1 ∧ Buf w1 base v1 (l ++ s.data.toList) ∧ Below base W w1 ∧ (∀ k, k < W.heap.size → v.ownBlock ≠ some k → w1.heap[k]? = W.heap[k]?) ∧ (v1.ownBlock = v.ownBlock ∨ ∃ b, v1.ownBlock = some b ∧ W.heap.size ≤ b) := by
  obtain ⟨i0, hi, hzz⟩ := Option.map_eq_some_iff.1 info5
  simp only [Prod.mk.injEq] at hzz
  obtain ⟨hz0, hz1, hz2⟩ := hzz
  obtain ⟨g, cap, rfl, ⟨h1, h2⟩, ⟨h3, h3'⟩, h4, h5⟩ := hB
  have hsl : s.data.toList.length = s.size := by rw [Array.length_toList]; rfl
  have hlen : (Lib.strCells s).length = s.size := Lib.strCells_length s
  have hsc : Lib.strCells s = Lib.byteCells s.data.toList := rfl
  have happ : Lib.byteCells l ++ Lib.strCells s = Lib.byteCells (l ++ s.data.toList) := by rw [hsc]; simp [Lib.byteCells]
  by_cases hr : l.length + s.size ≤ cap
  · have hf := Lib.run_firstCells_string (P := Tryd.prog) W 1 s
    have hst := run_storeCells_cells (P := Tryd.prog) g l.length (Lib.strCells s) 0 W (fun j hj => by have := (h5 (l.length + j) (by omega)).1; simpa using this) (fun j hj => by have := (h5 (l.length + j) (by omega)).2; simpa using this) (Lib.strCells_oneCell s)
    simp only [Nat.add_zero] at hst
    have hrun : (Builtin.append_ #[35, 9] ty #[.slice (some ⟨g, 0, none⟩) l.length cap, .string s]).run Tryd.prog W = .ok (.slice (some ⟨g, 0, none⟩) (l.length + s.size) cap) (W.setCells g l.length (Lib.strCells s)) := by
      simp [Builtin.append_, run_underlying Tryd.underlying35, run_underlying Tryd.underlying9, sizeOf, typeInfo, hi, hz1, Builtin.lenOf, hr, hf, Addr.add_lit, hst]
    have hth : W.there g l.length (Lib.strCells s).length := fun j hj => by have := h5 (l.length + j) (by omega); simpa using this
    refine ⟨_, _, hrun, ⟨g, cap, by rw [List.length_append, hsl], ⟨h1, by rw [(setCells_same g _ _ W).2.2.2]; exact h2⟩, ⟨by rw [List.length_append, hsl]; exact hr, h3'⟩, ?_, World.there_setCells h5 _ _ _⟩, below_setCells W g _ _ h1, fun k hk hne => setCells_far _ _ k (by rintro rfl; exact hne rfl), .inl rfl⟩
    intro j u hu
    rw [← happ] at hu
    by_cases hj : j < (Lib.byteCells l).length
    · rw [List.getElem?_append_left hj] at hu
      exact World.rangeAt_setCells_apart h4 g l.length (Lib.strCells s) (.inr (.inl (by rw [Lib.byteCells_length]; omega))) j u hu
    · rw [List.getElem?_append_right (by omega)] at hu
      have := World.rangeAt_setCells_same W g l.length (Lib.strCells s) hth (j - (Lib.byteCells l).length) u hu
      rw [Lib.byteCells_length] at this hj
      rw [show l.length + (j - l.length) = 0 + j by omega] at this
      exact this
  · have hrun := Lib.run_append_grow_string (P := Tryd.prog) W 35 9 ty 5 i0 (.int .u8 0) Tryd.underlying35 Tryd.underlying9 hi hz0 ⟨g, 0, none⟩ l.length cap (Lib.byteCells l) (by rw [Lib.byteCells_length, hz1]; omega) (fun j u hu => by rw [Addr.add_lit]; exact h4 j u hu) s (by omega) (by omega) (growslice_fits (by omega) (by rw [hz2]; omega))
    have hge := grownCap_ge W (l.length + s.size) cap 5
    have hcm : grownCap W (l.length + s.size) cap 5 ≤ maxLen := grownCap_le_maxLen W (l.length + s.size) cap 5 (by unfold maxLen; omega)
    have hsz : grownCap W (l.length + s.size) cap 5 ≤ ((Lib.byteCells l).toArray ++ (Lib.strCells s).toArray ++ Builtin.zeroCells (Value.int .u8 0).cells (grownCap W (l.length + s.size) cap 5 - (l.length + s.size))).size := by
      simp [size_zeroCells, Lib.byteCells_length, hlen, Value.cells]; omega
    have hby : ∀ j u, (Lib.byteCells (l ++ s.data.toList))[j]? = some u → ((Lib.byteCells l).toArray ++ (Lib.strCells s).toArray ++ Builtin.zeroCells (Value.int .u8 0).cells (grownCap W (l.length + s.size) cap 5 - (l.length + s.size)))[j]? = some u := fun j u hu => by
      rw [← happ] at hu
      have hj : j < (Lib.byteCells l ++ Lib.strCells s).length := (List.getElem?_eq_some_iff.1 hu).1
      rw [Array.getElem?_append_left (by simpa using hj)]
      simpa using hu
    have hb := heap_alloc_new W.drew (.cells ((Lib.byteCells l).toArray ++ (Lib.strCells s).toArray ++ Builtin.zeroCells (Value.int .u8 0).cells (grownCap W (l.length + s.size) cap 5 - (l.length + s.size))) 5)
    refine ⟨_, _, hrun, ?_, ⟨rfl, rfl, rfl, by simp, fun k hk => heap_alloc_old W.drew _ (by exact Nat.lt_of_lt_of_le hk hbase)⟩, fun k hk _ => heap_alloc_old W.drew _ (by exact hk), .inr ⟨_, rfl, Nat.le_refl _⟩⟩
    have hB := buf_new (base := base) (l := l ++ s.data.toList) hb (by exact hbase) (fun j _ => blk_frozen hb j) ⟨by rw [List.length_append, hsl]; exact hge, hcm⟩ hsz hby
    rw [List.length_append, hsl] at hB
    exact hB
section
variable {ops : Array Oper} {rest : List Oper} {o : Oper} {a : Act} {Q : Exit → Act → World → Prop} {K : Act → World → Prop}
theorem buf_apps2 (W : World) (base : Nat) (hgd : o.guard = none) (s x : Operand) (ho : o.op = .call { callee := .builtin .append, args := #[s, x], argTypes := #[35, 9] }) (v : Value) (l : List UInt8) (hs : a.eval s = v) (t : ByteArray) (hx : a.eval x = .string t)
    (hB : Buf W base v l) (hl : l.length + t.size ≤ 140737488355328) (hbase : base ≤ W.heap.size) (hy : 0 < t.size)
    (h : ∀ v1 w1, Buf w1 base v1 (l ++ t.data.toList) → Below base W w1 → (∀ k, k < W.heap.size → v.ownBlock ≠ some k → w1.heap[k]? = W.heap[k]?) → (v1.ownBlock = v.ownBlock ∨ ∃ b, v1.ownBlock = some b ∧ W.heap.size ≤ b) → wpList Tryd.prog ops Q rest (a.put o.dst v1) w1) : wpList Tryd.prog ops Q (o :: rest) a W := by
  obtain ⟨v1, w1, hr, hb1, hb2, hb3, hb4⟩ := buf_run_string2 W base v l hB t o.type hl hbase hy
  refine wpList_plain hgd fun K hK' => ?_
  unfold Oper.wp
  simp [execOp, ho, resolve, invoke, builtin, hs, hx, hr, Result.andThen]
  exact hK' _ _ (h v1 w1 hb1 hb2 hb3 hb4)
end
theorem told_take (l : List (List UInt8)) (k : Nat) : (toldLines (l.take k)).length ≤ (toldLines l).length := by
  have e : toldLines l = toldLines (l.take k) ++ toldLines (l.drop k) := by
    unfold toldLines
    rw [← List.flatMap_append, List.take_append_drop]
  rw [e, List.length_append]; omega
theorem told_snoc (l : List (List UInt8)) (k : Nat) (x : List UInt8) (h : l[k]? = some x) : toldLines (l.take (k + 1)) = toldLines (l.take k) ++ ([46, 32] ++ x ++ [10]) := by
  unfold toldLines
  rw [List.take_add_one, h]
  simp
theorem told_len (t : List UInt8) (h : t ≠ []) : (toldLines (linesOf t [])).length ≤ 3 * t.length + 3 := by
  rw [told_text t h, replace_nl]
  have key : ∀ l : List UInt8, (l.flatMap nlF).length ≤ 3 * l.length := by
    intro l
    induction l with
    | nil => simp
    | cons c r ih =>
      rw [List.flatMap_cons, List.length_append, List.length_cons]
      have : (nlF c).length ≤ 3 := by unfold nlF; split <;> simp
      omega
  have h1 := key (Lib.trimSuffix t [10])
  have h2 : (Lib.trimSuffix t [10]).length ≤ t.length := by
    unfold Lib.trimSuffix
    split
    · rw [List.length_take]; omega
    · omega
  simp only [List.length_append, List.length_cons, List.length_nil]
  omega
set_option maxHeartbeats 8000000 in
set_option maxRecDepth 100000 in
theorem refTell_calls (a : AnsT) (ha : a.ok) (w : World) (T : Pow w) :
    Calls Tryd.prog 5 #[a.v] w fun e w' => e = .returned (.string ⟨(tellL a).toArray⟩) ∧ Below w.heap.size w w' := by
  obtain ⟨code, cls, sel, at_, num, st, used, text⟩ := a
  have HA := Aside0.mk ha
  have HT := Aside0.mk T
  have hst := blk_new w (.cells #[.int .i64 code, .string cls, .string sel, .int .i64 at_, .int .i64 num, .int .i64 st, .int .i64 used, .string text] 26 (0, 0))
  have HST := Aside0.mk hst
  have d0 := (blk_cell hst 0).trans (show _ = some (.int .i64 code) from rfl)
  have d1 := (blk_cell hst 1).trans (show _ = some (.string cls) from rfl)
  have d2 := (blk_cell hst 2).trans (show _ = some (.string sel) from rfl)
  have d3 := (blk_cell hst 3).trans (show _ = some (.int .i64 at_) from rfl)
  have d4 := (blk_cell hst 4).trans (show _ = some (.int .i64 num) from rfl)
  have d5 := (blk_cell hst 5).trans (show _ = some (.int .i64 st) from rfl)
  have d6 := (blk_cell hst 6).trans (show _ = some (.int .i64 used) from rfl)
  have d7 := (blk_cell hst 7).trans (show _ = some (.string text) from rfl)
  have hhl := headL_len _ ha
  have hXs : (refHead ⟨code, cls, sel, at_, num, st, used, text⟩).size ≤ 1000000000 := by
    have h1 := congrArg List.length (refHead_list ⟨code, cls, sel, at_, num, st, used, text⟩)
    rw [Array.length_toList, List.length_append] at h1
    have h2 : (refHead ⟨code, cls, sel, at_, num, st, used, text⟩).data.size = (refHead ⟨code, cls, sel, at_, num, st, used, text⟩).size := rfl
    simp only [List.length_cons, List.length_nil] at h1
    omega
  have z1 := itoaB_size code ha.code
  have z2 := itoaB_size num ha.num
  have z3 := itoaB_size st ha.st
  have z4 := itoaB_size used ha.used
  have z5 := itoaB_size at_ ha.at_
  have z6 := wordB_size cls ha.cls
  have z7 := wordB_size sel ha.sel
  have y1 : ¬ (9223372036854775807 < 7 + (itoaB code).size) := by omega
  have y2 : ¬ (9223372036854775807 < 7 + (itoaB code).size + 1) := by omega
  have y3 : ¬ (9223372036854775807 < 7 + (itoaB code).size + 1 + (itoaB num).size) := by omega
  have y4 : ¬ (9223372036854775807 < 7 + (itoaB code).size + 1 + (itoaB num).size + 1) := by omega
  have y5 : ¬ (9223372036854775807 < 7 + (itoaB code).size + 1 + (itoaB num).size + 1 + (itoaB st).size) := by omega
  have y6 : ¬ (9223372036854775807 < 7 + (itoaB code).size + 1 + (itoaB num).size + 1 + (itoaB st).size + 1) := by omega
  have y7 : ¬ (9223372036854775807 < 7 + (itoaB code).size + 1 + (itoaB num).size + 1 + (itoaB st).size + 1 + (itoaB used).size) := by omega
  have y8 : ¬ (9223372036854775807 < 7 + (itoaB code).size + 1 + (itoaB num).size + 1 + (itoaB st).size + 1 + (itoaB used).size + 1) := by omega
  have y9 : ¬ (9223372036854775807 < 7 + (itoaB code).size + 1 + (itoaB num).size + 1 + (itoaB st).size + 1 + (itoaB used).size + 1 + (itoaB at_).size) := by omega
  have y10 : ¬ (9223372036854775807 < 7 + (itoaB code).size + 1 + (itoaB num).size + 1 + (itoaB st).size + 1 + (itoaB used).size + 1 + (itoaB at_).size + 1) := by omega
  have y11 : ¬ (9223372036854775807 < 7 + (itoaB code).size + 1 + (itoaB num).size + 1 + (itoaB st).size + 1 + (itoaB used).size + 1 + (itoaB at_).size + 1 + (wordB cls).size) := by omega
  have y12 : ¬ (9223372036854775807 < 7 + (itoaB code).size + 1 + (itoaB num).size + 1 + (itoaB st).size + 1 + (itoaB used).size + 1 + (itoaB at_).size + 1 + (wordB cls).size + 1) := by omega
  have y13 : ¬ (9223372036854775807 < 7 + (itoaB code).size + 1 + (itoaB num).size + 1 + (itoaB st).size + 1 + (itoaB used).size + 1 + (itoaB at_).size + 1 + (wordB cls).size + 1 + (wordB sel).size) := by omega
  have y14 : ¬ (9223372036854775807 < 7 + (itoaB code).size + 1 + (itoaB num).size + 1 + (itoaB st).size + 1 + (itoaB used).size + 1 + (itoaB at_).size + 1 + (wordB cls).size + 1 + (wordB sel).size + 1) := by omega
  have Z := Aside0.mk (And.intro z1 (And.intro z2 (And.intro z3 (And.intro z4 (And.intro z5 (And.intro z6 z7))))))
  clear ha T hst z1 z2 z3 z4 z5 z6 z7
  unfold AnsT.v
  go_enter Tryd.func5, Tryd.ntmps5
  go_wp2_with fail
  obtain ⟨w1, hw1⟩ : ∃ w1, w1 = w.alloc (Obj.cells #[Value.int .i64 code, Value.string cls, Value.string sel, Value.int .i64 at_, Value.int .i64 num, Value.int .i64 st, Value.int .i64 used, Value.string text] 26) := ⟨_, rfl⟩
  have HB1 : Aside0 (Below w.heap.size w w1) := ⟨by rw [hw1]; exact below_alloc (Below.refl _ _) _⟩
  have hs1 : w1.heap.size = w.heap.size + 1 := by rw [hw1]; simp
  rw [← hw1] at HST d0 d1 d2 d3 d4 d5 d6 d7
  rw [← hw1]
  clear hw1
  refine start_ (n := 41) (S := fun w' => w'.cell? ⟨w.heap.size, 0, none⟩ = some (.int .i64 code) ∧ w'.cell? ⟨w.heap.size, 4, none⟩ = some (.int .i64 num) ∧ w'.cell? ⟨w.heap.size, 5, none⟩ = some (.int .i64 st) ∧ w'.cell? ⟨w.heap.size, 6, none⟩ = some (.int .i64 used) ∧ w'.cell? ⟨w.heap.size, 3, none⟩ = some (.int .i64 at_) ∧ w'.cell? ⟨w.heap.size, 1, none⟩ = some (.string cls) ∧ w'.cell? ⟨w.heap.size, 2, none⟩ = some (.string sel) ∧ w'.cell? ⟨w.heap.size, 7, none⟩ = some (.string text)) (ds := [39]) #[false, false, false, false, false, false, false, false, false, false, false, false, false, false, false, false, false, false, false, false, false, false, false, false, false, false, false, false, false, false, false, false, false, false, false, false, false, false, false, false, false] (by kernel_rfl) rfl rfl ⟨(by exact d0), (by exact d4), (by exact d5), (by exact d6), (by exact d3), (by exact d1), (by exact d2), (by exact d7)⟩ (fun hHeld => ?_)
  refine pure_ (i := 0) (N := some 6) (v := ?_) (a' := ?_) #[true, false, false, false, false, false, false, false, false, false, false, false, false, false, false, false, false, false, false, false, false, false, false, false, false, false, false, false, false, false, false, false, false, false, false, false, false, false, false, false, false] rfl rfl (by kernel_rfl) (fun _ _ _ h => h) (Or.inl ⟨by rfl, ?_⟩) ?_ ?_
  rotate_left
  · intro w'
    go_simp
    with_reducible rfl
  rotate_left
  · simp only [Act.put, List.setIfInBounds_toArray, List.set_cons_zero, List.set_cons_succ, i64_w, i32_w]
    rfl
  refine pure_ (i := 1) (N := some 7) (v := ?_) (a' := ?_) #[true, true, false, false, false, false, false, false, false, false, false, false, false, false, false, false, false, false, false, false, false, false, false, false, false, false, false, false, false, false, false, false, false, false, false, false, false, false, false, false, false] rfl rfl (by kernel_rfl) (fun _ _ _ h => h) (Or.inl ⟨by rfl, ?_⟩) ?_ ?_
  rotate_left
  · intro w'
    go_simp
    with_reducible rfl
  rotate_left
  · simp only [Act.put, List.setIfInBounds_toArray, List.set_cons_zero, List.set_cons_succ, i64_w, i32_w]
    rfl
  refine pure_ (i := 6) (N := some 12) (v := ?_) (a' := ?_) #[true, true, false, false, false, false, true, false, false, false, false, false, false, false, false, false, false, false, false, false, false, false, false, false, false, false, false, false, false, false, false, false, false, false, false, false, false, false, false, false, false] rfl rfl (by kernel_rfl) (fun _ _ _ h => h) (Or.inl ⟨by rfl, ?_⟩) ?_ ?_
  rotate_left
  · intro w'
    go_simp
    with_reducible rfl
  rotate_left
  · simp only [Act.put, List.setIfInBounds_toArray, List.set_cons_zero, List.set_cons_succ, i64_w, i32_w]
    rfl
  refine pure_ (i := 11) (N := some 17) (v := ?_) (a' := ?_) #[true, true, false, false, false, false, true, false, false, false, false, true, false, false, false, false, false, false, false, false, false, false, false, false, false, false, false, false, false, false, false, false, false, false, false, false, false, false, false, false, false] rfl rfl (by kernel_rfl) (fun _ _ _ h => h) (Or.inl ⟨by rfl, ?_⟩) ?_ ?_
  rotate_left
  · intro w'
    go_simp
    with_reducible rfl
  rotate_left
  · simp only [Act.put, List.setIfInBounds_toArray, List.set_cons_zero, List.set_cons_succ, i64_w, i32_w]
    rfl
  refine pure_ (i := 16) (N := some 22) (v := ?_) (a' := ?_) #[true, true, false, false, false, false, true, false, false, false, false, true, false, false, false, false, true, false, false, false, false, false, false, false, false, false, false, false, false, false, false, false, false, false, false, false, false, false, false, false, false] rfl rfl (by kernel_rfl) (fun _ _ _ h => h) (Or.inl ⟨by rfl, ?_⟩) ?_ ?_
  rotate_left
  · intro w'
    go_simp
    with_reducible rfl
  rotate_left
  · simp only [Act.put, List.setIfInBounds_toArray, List.set_cons_zero, List.set_cons_succ, i64_w, i32_w]
    rfl
  refine pure_ (i := 21) (N := some 27) (v := ?_) (a' := ?_) #[true, true, false, false, false, false, true, false, false, false, false, true, false, false, false, false, true, false, false, false, false, true, false, false, false, false, false, false, false, false, false, false, false, false, false, false, false, false, false, false, false] rfl rfl (by kernel_rfl) (fun _ _ _ h => h) (Or.inl ⟨by rfl, ?_⟩) ?_ ?_
  rotate_left
  · intro w'
    go_simp
    with_reducible rfl
  rotate_left
  · simp only [Act.put, List.setIfInBounds_toArray, List.set_cons_zero, List.set_cons_succ, i64_w, i32_w]
    rfl
  refine pure_ (i := 22) (N := some 28) (v := ?_) (a' := ?_) #[true, true, false, false, false, false, true, false, false, false, false, true, false, false, false, false, true, false, false, false, false, true, true, false, false, false, false, false, false, false, false, false, false, false, false, false, false, false, false, false, false] rfl rfl (by kernel_rfl) (fun _ _ _ h => h) (Or.inl ⟨by rfl, ?_⟩) ?_ ?_
  rotate_left
  · intro w'
    go_simp
    with_reducible rfl
  rotate_left
  · simp only [Act.put, List.setIfInBounds_toArray, List.set_cons_zero, List.set_cons_succ, i64_w, i32_w]
    rfl
  refine pure_ (i := 27) (N := some 33) (v := ?_) (a' := ?_) #[true, true, false, false, false, false, true, false, false, false, false, true, false, false, false, false, true, false, false, false, false, true, true, false, false, false, false, true, false, false, false, false, false, false, false, false, false, false, false, false, false] rfl rfl (by kernel_rfl) (fun _ _ _ h => h) (Or.inl ⟨by rfl, ?_⟩) ?_ ?_
  rotate_left
  · intro w'
    go_simp
    with_reducible rfl
  rotate_left
  · simp only [Act.put, List.setIfInBounds_toArray, List.set_cons_zero, List.set_cons_succ, i64_w, i32_w]
    rfl
  refine pure_ (i := 28) (N := some 34) (v := ?_) (a' := ?_) #[true, true, false, false, false, false, true, false, false, false, false, true, false, false, false, false, true, false, false, false, false, true, true, false, false, false, false, true, true, false, false, false, false, false, false, false, false, false, false, false, false] rfl rfl (by kernel_rfl) (fun _ _ _ h => h) (Or.inl ⟨by rfl, ?_⟩) ?_ ?_
  rotate_left
  · intro w'
    go_simp
    with_reducible rfl
  rotate_left
  · simp only [Act.put, List.setIfInBounds_toArray, List.set_cons_zero, List.set_cons_succ, i64_w, i32_w]
    rfl
  refine pure_ (i := 33) (N := some 39) (v := ?_) (a' := ?_) #[true, true, false, false, false, false, true, false, false, false, false, true, false, false, false, false, true, false, false, false, false, true, true, false, false, false, false, true, true, false, false, false, false, true, false, false, false, false, false, false, false] rfl rfl (by kernel_rfl) (fun _ _ _ h => h) (Or.inl ⟨by rfl, ?_⟩) ?_ ?_
  rotate_left
  · intro w'
    go_simp
    with_reducible rfl
  rotate_left
  · simp only [Act.put, List.setIfInBounds_toArray, List.set_cons_zero, List.set_cons_succ, i64_w, i32_w]
    rfl
  refine pure_ (i := 34) (N := some 40) (v := ?_) (a' := ?_) #[true, true, false, false, false, false, true, false, false, false, false, true, false, false, false, false, true, false, false, false, false, true, true, false, false, false, false, true, true, false, false, false, false, true, true, false, false, false, false, false, false] rfl rfl (by kernel_rfl) (fun _ _ _ h => h) (Or.inl ⟨by rfl, ?_⟩) ?_ ?_
  rotate_left
  · intro w'
    go_simp
    with_reducible rfl
  rotate_left
  · simp only [Act.put, List.setIfInBounds_toArray, List.set_cons_zero, List.set_cons_succ, i64_w, i32_w]
    rfl
  refine take_ (i := 2) (N := some 8) (v := ?_) (a' := ?_) #[true, true, true, false, false, false, true, false, false, false, false, true, false, false, false, false, true, false, false, false, false, true, true, false, false, false, false, true, true, false, false, false, false, true, true, false, false, false, false, false, false] rfl rfl (by kernel_rfl) (fun _ _ _ h => h) (Or.inl ⟨by rfl, ?_⟩) hHeld ?_ ?_
  rotate_left
  · rintro w' ⟨s0, s1, s2, s3, s4, s5, s6, s7⟩
    go_simp
    with_reducible rfl
  rotate_left
  · simp only [Act.put, List.setIfInBounds_toArray, List.set_cons_zero, List.set_cons_succ, i64_w, i32_w]
    rfl
  refine take_ (i := 7) (N := some 13) (v := ?_) (a' := ?_) #[true, true, true, false, false, false, true, true, false, false, false, true, false, false, false, false, true, false, false, false, false, true, true, false, false, false, false, true, true, false, false, false, false, true, true, false, false, false, false, false, false] rfl rfl (by kernel_rfl) (fun _ _ _ h => h) (Or.inl ⟨by rfl, ?_⟩) hHeld ?_ ?_
  rotate_left
  · rintro w' ⟨s0, s1, s2, s3, s4, s5, s6, s7⟩
    go_simp
    with_reducible rfl
  rotate_left
  · simp only [Act.put, List.setIfInBounds_toArray, List.set_cons_zero, List.set_cons_succ, i64_w, i32_w]
    rfl
  refine take_ (i := 12) (N := some 18) (v := ?_) (a' := ?_) #[true, true, true, false, false, false, true, true, false, false, false, true, true, false, false, false, true, false, false, false, false, true, true, false, false, false, false, true, true, false, false, false, false, true, true, false, false, false, false, false, false] rfl rfl (by kernel_rfl) (fun _ _ _ h => h) (Or.inl ⟨by rfl, ?_⟩) hHeld ?_ ?_
  rotate_left
  · rintro w' ⟨s0, s1, s2, s3, s4, s5, s6, s7⟩
    go_simp
    with_reducible rfl
  rotate_left
  · simp only [Act.put, List.setIfInBounds_toArray, List.set_cons_zero, List.set_cons_succ, i64_w, i32_w]
    rfl
  refine take_ (i := 17) (N := some 23) (v := ?_) (a' := ?_) #[true, true, true, false, false, false, true, true, false, false, false, true, true, false, false, false, true, true, false, false, false, true, true, false, false, false, false, true, true, false, false, false, false, true, true, false, false, false, false, false, false] rfl rfl (by kernel_rfl) (fun _ _ _ h => h) (Or.inl ⟨by rfl, ?_⟩) hHeld ?_ ?_
  rotate_left
  · rintro w' ⟨s0, s1, s2, s3, s4, s5, s6, s7⟩
    go_simp
    with_reducible rfl
  rotate_left
  · simp only [Act.put, List.setIfInBounds_toArray, List.set_cons_zero, List.set_cons_succ, i64_w, i32_w]
    rfl
  refine take_ (i := 23) (N := some 29) (v := ?_) (a' := ?_) #[true, true, true, false, false, false, true, true, false, false, false, true, true, false, false, false, true, true, false, false, false, true, true, true, false, false, false, true, true, false, false, false, false, true, true, false, false, false, false, false, false] rfl rfl (by kernel_rfl) (fun _ _ _ h => h) (Or.inl ⟨by rfl, ?_⟩) hHeld ?_ ?_
  rotate_left
  · rintro w' ⟨s0, s1, s2, s3, s4, s5, s6, s7⟩
    go_simp
    with_reducible rfl
  rotate_left
  · simp only [Act.put, List.setIfInBounds_toArray, List.set_cons_zero, List.set_cons_succ, i64_w, i32_w]
    rfl
  refine take_ (i := 29) (N := some 35) (v := ?_) (a' := ?_) #[true, true, true, false, false, false, true, true, false, false, false, true, true, false, false, false, true, true, false, false, false, true, true, true, false, false, false, true, true, true, false, false, false, true, true, false, false, false, false, false, false] rfl rfl (by kernel_rfl) (fun _ _ _ h => h) (Or.inl ⟨by rfl, ?_⟩) hHeld ?_ ?_
  rotate_left
  · rintro w' ⟨s0, s1, s2, s3, s4, s5, s6, s7⟩
    go_simp
    with_reducible rfl
  rotate_left
  · simp only [Act.put, List.setIfInBounds_toArray, List.set_cons_zero, List.set_cons_succ, i64_w, i32_w]
    rfl
  refine take_ (i := 35) (N := some 41) (v := ?_) (a' := ?_) #[true, true, true, false, false, false, true, true, false, false, false, true, true, false, false, false, true, true, false, false, false, true, true, true, false, false, false, true, true, true, false, false, false, true, true, true, false, false, false, false, false] rfl rfl (by kernel_rfl) (fun _ _ _ h => h) (Or.inl ⟨by rfl, ?_⟩) hHeld ?_ ?_
  rotate_left
  · rintro w' ⟨s0, s1, s2, s3, s4, s5, s6, s7⟩
    go_simp
    with_reducible rfl
  rotate_left
  · simp only [Act.put, List.setIfInBounds_toArray, List.set_cons_zero, List.set_cons_succ, i64_w, i32_w]
    rfl
  refine one_ (i := 3) (N := some 9) #[true, true, true, true, false, false, true, true, false, false, false, true, true, false, false, false, true, true, false, false, false, true, true, true, false, false, false, true, true, true, false, false, false, true, true, true, false, false, false, false, false] rfl rfl (by kernel_rfl) (by decide) (fun K hK => ?_)
  refine goes_ Tryd.func11 (by kernel_rfl) rfl #[.int .i64 code] (by rfl) rfl rfl (by simp only [List.map_toArray, List.map_cons, List.map_nil]; rfl) ?_
  with_reducible refine (number_ok code HA.out.code _ (HT.out.below (below_drew HB1.out))).mono ?_
  rintro e w2 ⟨rfl, hBB0⟩
  have hBA0 : Below w.heap.size w w2 := below_then (below_drew HB1.out) (by have := (below_drew HB1.out).size; exact this) hBB0
  refine ⟨_, rfl, ?_⟩
  refine hK.out _ _ ⟨(pw_cell_below hBB0 hHeld.1), (pw_cell_below hBB0 hHeld.2.1), (pw_cell_below hBB0 hHeld.2.2.1), (pw_cell_below hBB0 hHeld.2.2.2.1), (pw_cell_below hBB0 hHeld.2.2.2.2.1), (pw_cell_below hBB0 hHeld.2.2.2.2.2.1), (pw_cell_below hBB0 hHeld.2.2.2.2.2.2.1), (pw_cell_below hBB0 hHeld.2.2.2.2.2.2.2)⟩ (fun hHeld => ?_)
  clear hK K
  refine norm_ (a' := ?_) ?_ ?_
  rotate_left
  · show Act.put _ (some 9) _ = _
    simp only [Act.put, List.setIfInBounds_toArray, List.set_cons_zero, List.set_cons_succ, i64_w, i32_w]
    rfl
  refine pure_ (i := 4) (N := some 10) (v := ?_) (a' := ?_) #[true, true, true, true, true, false, true, true, false, false, false, true, true, false, false, false, true, true, false, false, false, true, true, true, false, false, false, true, true, true, false, false, false, true, true, true, false, false, false, false, false] rfl rfl (by kernel_rfl) (fun _ _ _ h => h) (Or.inl ⟨by rfl, ?_⟩) ?_ ?_
  rotate_left
  · intro w'
    go_simp
    with_reducible rfl
  rotate_left
  · simp only [Act.put, List.setIfInBounds_toArray, List.set_cons_zero, List.set_cons_succ, i64_w, i32_w]
    rfl
  refine pure_ (i := 5) (N := some 11) (v := ?_) (a' := ?_) #[true, true, true, true, true, true, true, true, false, false, false, true, true, false, false, false, true, true, false, false, false, true, true, true, false, false, false, true, true, true, false, false, false, true, true, true, false, false, false, false, false] rfl rfl (by kernel_rfl) (fun _ _ _ h => h) (Or.inl ⟨by rfl, ?_⟩) ?_ ?_
  rotate_left
  · intro w'
    go_simp
    with_reducible rfl
  rotate_left
  · simp only [Act.put, List.setIfInBounds_toArray, List.set_cons_zero, List.set_cons_succ, i64_w, i32_w]
    rfl
  refine one_ (i := 8) (N := some 14) #[true, true, true, true, true, true, true, true, true, false, false, true, true, false, false, false, true, true, false, false, false, true, true, true, false, false, false, true, true, true, false, false, false, true, true, true, false, false, false, false, false] rfl rfl (by kernel_rfl) (by decide) (fun K hK => ?_)
  refine goes_ Tryd.func11 (by kernel_rfl) rfl #[.int .i64 num] (by rfl) rfl rfl (by simp only [List.map_toArray, List.map_cons, List.map_nil]; rfl) ?_
  with_reducible refine (number_ok num HA.out.num _ (HT.out.below (hBA0))).mono ?_
  rintro e w3 ⟨rfl, hBB1⟩
  have hBA1 : Below w.heap.size w w3 := below_then (hBA0) (by have := (hBA0).size; exact this) hBB1
  refine ⟨_, rfl, ?_⟩
  refine hK.out _ _ ⟨(pw_cell_below hBB1 hHeld.1), (pw_cell_below hBB1 hHeld.2.1), (pw_cell_below hBB1 hHeld.2.2.1), (pw_cell_below hBB1 hHeld.2.2.2.1), (pw_cell_below hBB1 hHeld.2.2.2.2.1), (pw_cell_below hBB1 hHeld.2.2.2.2.2.1), (pw_cell_below hBB1 hHeld.2.2.2.2.2.2.1), (pw_cell_below hBB1 hHeld.2.2.2.2.2.2.2)⟩ (fun hHeld => ?_)
  clear hK K
  refine norm_ (a' := ?_) ?_ ?_
  rotate_left
  · show Act.put _ (some 14) _ = _
    simp only [Act.put, List.setIfInBounds_toArray, List.set_cons_zero, List.set_cons_succ, i64_w, i32_w]
    rfl
  refine pure_ (i := 9) (N := some 15) (v := ?_) (a' := ?_) #[true, true, true, true, true, true, true, true, true, true, false, true, true, false, false, false, true, true, false, false, false, true, true, true, false, false, false, true, true, true, false, false, false, true, true, true, false, false, false, false, false] rfl rfl (by kernel_rfl) (fun _ _ _ h => h) (Or.inl ⟨by rfl, ?_⟩) ?_ ?_
  rotate_left
  · intro w'
    go_simp
    with_reducible rfl
  rotate_left
  · simp only [Act.put, List.setIfInBounds_toArray, List.set_cons_zero, List.set_cons_succ, i64_w, i32_w]
    rfl
  refine pure_ (i := 10) (N := some 16) (v := ?_) (a' := ?_) #[true, true, true, true, true, true, true, true, true, true, true, true, true, false, false, false, true, true, false, false, false, true, true, true, false, false, false, true, true, true, false, false, false, true, true, true, false, false, false, false, false] rfl rfl (by kernel_rfl) (fun _ _ _ h => h) (Or.inl ⟨by rfl, ?_⟩) ?_ ?_
  rotate_left
  · intro w'
    go_simp
    with_reducible rfl
  rotate_left
  · simp only [Act.put, List.setIfInBounds_toArray, List.set_cons_zero, List.set_cons_succ, i64_w, i32_w]
    rfl
  refine one_ (i := 13) (N := some 19) #[true, true, true, true, true, true, true, true, true, true, true, true, true, true, false, false, true, true, false, false, false, true, true, true, false, false, false, true, true, true, false, false, false, true, true, true, false, false, false, false, false] rfl rfl (by kernel_rfl) (by decide) (fun K hK => ?_)
  refine goes_ Tryd.func11 (by kernel_rfl) rfl #[.int .i64 st] (by rfl) rfl rfl (by simp only [List.map_toArray, List.map_cons, List.map_nil]; rfl) ?_
  with_reducible refine (number_ok st HA.out.st _ (HT.out.below (hBA1))).mono ?_
  rintro e w4 ⟨rfl, hBB2⟩
  have hBA2 : Below w.heap.size w w4 := below_then (hBA1) (by have := (hBA1).size; exact this) hBB2
  refine ⟨_, rfl, ?_⟩
  refine hK.out _ _ ⟨(pw_cell_below hBB2 hHeld.1), (pw_cell_below hBB2 hHeld.2.1), (pw_cell_below hBB2 hHeld.2.2.1), (pw_cell_below hBB2 hHeld.2.2.2.1), (pw_cell_below hBB2 hHeld.2.2.2.2.1), (pw_cell_below hBB2 hHeld.2.2.2.2.2.1), (pw_cell_below hBB2 hHeld.2.2.2.2.2.2.1), (pw_cell_below hBB2 hHeld.2.2.2.2.2.2.2)⟩ (fun hHeld => ?_)
  clear hK K
  refine norm_ (a' := ?_) ?_ ?_
  rotate_left
  · show Act.put _ (some 19) _ = _
    simp only [Act.put, List.setIfInBounds_toArray, List.set_cons_zero, List.set_cons_succ, i64_w, i32_w]
    rfl
  refine pure_ (i := 14) (N := some 20) (v := ?_) (a' := ?_) #[true, true, true, true, true, true, true, true, true, true, true, true, true, true, true, false, true, true, false, false, false, true, true, true, false, false, false, true, true, true, false, false, false, true, true, true, false, false, false, false, false] rfl rfl (by kernel_rfl) (fun _ _ _ h => h) (Or.inl ⟨by rfl, ?_⟩) ?_ ?_
  rotate_left
  · intro w'
    go_simp
    with_reducible rfl
  rotate_left
  · simp only [Act.put, List.setIfInBounds_toArray, List.set_cons_zero, List.set_cons_succ, i64_w, i32_w]
    rfl
  refine pure_ (i := 15) (N := some 21) (v := ?_) (a' := ?_) #[true, true, true, true, true, true, true, true, true, true, true, true, true, true, true, true, true, true, false, false, false, true, true, true, false, false, false, true, true, true, false, false, false, true, true, true, false, false, false, false, false] rfl rfl (by kernel_rfl) (fun _ _ _ h => h) (Or.inl ⟨by rfl, ?_⟩) ?_ ?_
  rotate_left
  · intro w'
    go_simp
    with_reducible rfl
  rotate_left
  · simp only [Act.put, List.setIfInBounds_toArray, List.set_cons_zero, List.set_cons_succ, i64_w, i32_w]
    rfl
  refine one_ (i := 18) (N := some 24) #[true, true, true, true, true, true, true, true, true, true, true, true, true, true, true, true, true, true, true, false, false, true, true, true, false, false, false, true, true, true, false, false, false, true, true, true, false, false, false, false, false] rfl rfl (by kernel_rfl) (by decide) (fun K hK => ?_)
  refine goes_ Tryd.func11 (by kernel_rfl) rfl #[.int .i64 used] (by rfl) rfl rfl (by simp only [List.map_toArray, List.map_cons, List.map_nil]; rfl) ?_
  with_reducible refine (number_ok used HA.out.used _ (HT.out.below (hBA2))).mono ?_
  rintro e w5 ⟨rfl, hBB3⟩
  have hBA3 : Below w.heap.size w w5 := below_then (hBA2) (by have := (hBA2).size; exact this) hBB3
  refine ⟨_, rfl, ?_⟩
  refine hK.out _ _ ⟨(pw_cell_below hBB3 hHeld.1), (pw_cell_below hBB3 hHeld.2.1), (pw_cell_below hBB3 hHeld.2.2.1), (pw_cell_below hBB3 hHeld.2.2.2.1), (pw_cell_below hBB3 hHeld.2.2.2.2.1), (pw_cell_below hBB3 hHeld.2.2.2.2.2.1), (pw_cell_below hBB3 hHeld.2.2.2.2.2.2.1), (pw_cell_below hBB3 hHeld.2.2.2.2.2.2.2)⟩ (fun hHeld => ?_)
  clear hK K
  refine norm_ (a' := ?_) ?_ ?_
  rotate_left
  · show Act.put _ (some 24) _ = _
    simp only [Act.put, List.setIfInBounds_toArray, List.set_cons_zero, List.set_cons_succ, i64_w, i32_w]
    rfl
  refine pure_ (i := 19) (N := some 25) (v := ?_) (a' := ?_) #[true, true, true, true, true, true, true, true, true, true, true, true, true, true, true, true, true, true, true, true, false, true, true, true, false, false, false, true, true, true, false, false, false, true, true, true, false, false, false, false, false] rfl rfl (by kernel_rfl) (fun _ _ _ h => h) (Or.inl ⟨by rfl, ?_⟩) ?_ ?_
  rotate_left
  · intro w'
    go_simp
    with_reducible rfl
  rotate_left
  · simp only [Act.put, List.setIfInBounds_toArray, List.set_cons_zero, List.set_cons_succ, i64_w, i32_w]
    rfl
  refine pure_ (i := 20) (N := some 26) (v := ?_) (a' := ?_) #[true, true, true, true, true, true, true, true, true, true, true, true, true, true, true, true, true, true, true, true, true, true, true, true, false, false, false, true, true, true, false, false, false, true, true, true, false, false, false, false, false] rfl rfl (by kernel_rfl) (fun _ _ _ h => h) (Or.inl ⟨by rfl, ?_⟩) ?_ ?_
  rotate_left
  · intro w'
    go_simp
    with_reducible rfl
  rotate_left
  · simp only [Act.put, List.setIfInBounds_toArray, List.set_cons_zero, List.set_cons_succ, i64_w, i32_w]
    rfl
  refine one_ (i := 24) (N := some 30) #[true, true, true, true, true, true, true, true, true, true, true, true, true, true, true, true, true, true, true, true, true, true, true, true, true, false, false, true, true, true, false, false, false, true, true, true, false, false, false, false, false] rfl rfl (by kernel_rfl) (by decide) (fun K hK => ?_)
  refine goes_ Tryd.func11 (by kernel_rfl) rfl #[.int .i64 at_] (by rfl) rfl rfl (by simp only [List.map_toArray, List.map_cons, List.map_nil]; rfl) ?_
  with_reducible refine (number_ok at_ HA.out.at_ _ (HT.out.below (hBA3))).mono ?_
  rintro e w6 ⟨rfl, hBB4⟩
  have hBA4 : Below w.heap.size w w6 := below_then (hBA3) (by have := (hBA3).size; exact this) hBB4
  refine ⟨_, rfl, ?_⟩
  refine hK.out _ _ ⟨(pw_cell_below hBB4 hHeld.1), (pw_cell_below hBB4 hHeld.2.1), (pw_cell_below hBB4 hHeld.2.2.1), (pw_cell_below hBB4 hHeld.2.2.2.1), (pw_cell_below hBB4 hHeld.2.2.2.2.1), (pw_cell_below hBB4 hHeld.2.2.2.2.2.1), (pw_cell_below hBB4 hHeld.2.2.2.2.2.2.1), (pw_cell_below hBB4 hHeld.2.2.2.2.2.2.2)⟩ (fun hHeld => ?_)
  clear hK K
  refine norm_ (a' := ?_) ?_ ?_
  rotate_left
  · show Act.put _ (some 30) _ = _
    simp only [Act.put, List.setIfInBounds_toArray, List.set_cons_zero, List.set_cons_succ, i64_w, i32_w]
    rfl
  refine pure_ (i := 25) (N := some 31) (v := ?_) (a' := ?_) #[true, true, true, true, true, true, true, true, true, true, true, true, true, true, true, true, true, true, true, true, true, true, true, true, true, true, false, true, true, true, false, false, false, true, true, true, false, false, false, false, false] rfl rfl (by kernel_rfl) (fun _ _ _ h => h) (Or.inl ⟨by rfl, ?_⟩) ?_ ?_
  rotate_left
  · intro w'
    go_simp
    with_reducible rfl
  rotate_left
  · simp only [Act.put, List.setIfInBounds_toArray, List.set_cons_zero, List.set_cons_succ, i64_w, i32_w]
    rfl
  refine pure_ (i := 26) (N := some 32) (v := ?_) (a' := ?_) #[true, true, true, true, true, true, true, true, true, true, true, true, true, true, true, true, true, true, true, true, true, true, true, true, true, true, true, true, true, true, false, false, false, true, true, true, false, false, false, false, false] rfl rfl (by kernel_rfl) (fun _ _ _ h => h) (Or.inl ⟨by rfl, ?_⟩) ?_ ?_
  rotate_left
  · intro w'
    go_simp
    with_reducible rfl
  rotate_left
  · simp only [Act.put, List.setIfInBounds_toArray, List.set_cons_zero, List.set_cons_succ, i64_w, i32_w]
    rfl
  refine one_ (i := 30) (N := some 36) #[true, true, true, true, true, true, true, true, true, true, true, true, true, true, true, true, true, true, true, true, true, true, true, true, true, true, true, true, true, true, true, false, false, true, true, true, false, false, false, false, false] rfl rfl (by kernel_rfl) (by decide) (fun K hK => ?_)
  refine goes_ Tryd.func12 (by kernel_rfl) rfl #[.string cls] (by rfl) rfl rfl (by simp only [List.map_toArray, List.map_cons, List.map_nil]; rfl) ?_
  with_reducible refine (refWritten_calls' cls HA.out.cls _).mono ?_
  rintro e w7 ⟨rfl, hBB5⟩
  have hBA5 : Below w.heap.size w w7 := below_then (hBA4) (by have := (hBA4).size; exact this) hBB5
  refine ⟨_, rfl, ?_⟩
  refine hK.out _ _ ⟨(pw_cell_below hBB5 hHeld.1), (pw_cell_below hBB5 hHeld.2.1), (pw_cell_below hBB5 hHeld.2.2.1), (pw_cell_below hBB5 hHeld.2.2.2.1), (pw_cell_below hBB5 hHeld.2.2.2.2.1), (pw_cell_below hBB5 hHeld.2.2.2.2.2.1), (pw_cell_below hBB5 hHeld.2.2.2.2.2.2.1), (pw_cell_below hBB5 hHeld.2.2.2.2.2.2.2)⟩ (fun hHeld => ?_)
  clear hK K
  refine norm_ (a' := ?_) ?_ ?_
  rotate_left
  · show Act.put _ (some 36) _ = _
    simp only [Act.put, List.setIfInBounds_toArray, List.set_cons_zero, List.set_cons_succ, i64_w, i32_w]
    rfl
  refine pure_ (i := 31) (N := some 37) (v := ?_) (a' := ?_) #[true, true, true, true, true, true, true, true, true, true, true, true, true, true, true, true, true, true, true, true, true, true, true, true, true, true, true, true, true, true, true, true, false, true, true, true, false, false, false, false, false] rfl rfl (by kernel_rfl) (fun _ _ _ h => h) (Or.inl ⟨by rfl, ?_⟩) ?_ ?_
  rotate_left
  · intro w'
    go_simp
    with_reducible rfl
  rotate_left
  · simp only [Act.put, List.setIfInBounds_toArray, List.set_cons_zero, List.set_cons_succ, i64_w, i32_w]
    rfl
  refine pure_ (i := 32) (N := some 38) (v := ?_) (a' := ?_) #[true, true, true, true, true, true, true, true, true, true, true, true, true, true, true, true, true, true, true, true, true, true, true, true, true, true, true, true, true, true, true, true, true, true, true, true, false, false, false, false, false] rfl rfl (by kernel_rfl) (fun _ _ _ h => h) (Or.inl ⟨by rfl, ?_⟩) ?_ ?_
  rotate_left
  · intro w'
    go_simp
    with_reducible rfl
  rotate_left
  · simp only [Act.put, List.setIfInBounds_toArray, List.set_cons_zero, List.set_cons_succ, i64_w, i32_w]
    rfl
  refine one_ (i := 36) (N := some 42) #[true, true, true, true, true, true, true, true, true, true, true, true, true, true, true, true, true, true, true, true, true, true, true, true, true, true, true, true, true, true, true, true, true, true, true, true, true, false, false, false, false] rfl rfl (by kernel_rfl) (by decide) (fun K hK => ?_)
  refine goes_ Tryd.func12 (by kernel_rfl) rfl #[.string sel] (by rfl) rfl rfl (by simp only [List.map_toArray, List.map_cons, List.map_nil]; rfl) ?_
  with_reducible refine (refWritten_calls' sel HA.out.sel _).mono ?_
  rintro e w8 ⟨rfl, hBB6⟩
  have hBA6 : Below w.heap.size w w8 := below_then (hBA5) (by have := (hBA5).size; exact this) hBB6
  refine ⟨_, rfl, ?_⟩
  refine hK.out _ _ ⟨(pw_cell_below hBB6 hHeld.1), (pw_cell_below hBB6 hHeld.2.1), (pw_cell_below hBB6 hHeld.2.2.1), (pw_cell_below hBB6 hHeld.2.2.2.1), (pw_cell_below hBB6 hHeld.2.2.2.2.1), (pw_cell_below hBB6 hHeld.2.2.2.2.2.1), (pw_cell_below hBB6 hHeld.2.2.2.2.2.2.1), (pw_cell_below hBB6 hHeld.2.2.2.2.2.2.2)⟩ (fun hHeld => ?_)
  clear hK K
  refine norm_ (a' := ?_) ?_ ?_
  rotate_left
  · show Act.put _ (some 42) _ = _
    simp only [Act.put, List.setIfInBounds_toArray, List.set_cons_zero, List.set_cons_succ, i64_w, i32_w]
    rfl
  refine pure_ (i := 37) (N := some 43) (v := ?_) (a' := ?_) #[true, true, true, true, true, true, true, true, true, true, true, true, true, true, true, true, true, true, true, true, true, true, true, true, true, true, true, true, true, true, true, true, true, true, true, true, true, true, false, false, false] rfl rfl (by kernel_rfl) (fun _ _ _ h => h) (Or.inl ⟨by rfl, ?_⟩) ?_ ?_
  rotate_left
  · intro w'
    go_simp
    with_reducible rfl
  rotate_left
  · simp only [Act.put, List.setIfInBounds_toArray, List.set_cons_zero, List.set_cons_succ, i64_w, i32_w]
    rfl
  refine pure_ (i := 38) (N := some 44) (v := ?_) (a' := ?_) #[true, true, true, true, true, true, true, true, true, true, true, true, true, true, true, true, true, true, true, true, true, true, true, true, true, true, true, true, true, true, true, true, true, true, true, true, true, true, true, false, false] rfl rfl (by kernel_rfl) (fun _ _ _ h => h) (Or.inl ⟨by rfl, ?_⟩) ?_ ?_
  rotate_left
  · intro w'
    go_simp
    with_reducible rfl
  rotate_left
  · simp only [Act.put, List.setIfInBounds_toArray, List.set_cons_zero, List.set_cons_succ, i64_w, i32_w]
    rfl
  refine last_ (i := 39) (N := some 45) #[true, true, true, true, true, true, true, true, true, true, true, true, true, true, true, true, true, true, true, true, true, true, true, true, true, true, true, true, true, true, true, true, true, true, true, true, true, true, true, true, false] rfl rfl (by kernel_rfl) (by decide) (fun K hK => ?_)
  refine conv_step _ w.heap.size rfl (.tmp 44) rfl (refHead ⟨code, cls, sel, at_, num, st, used, text⟩) rfl hXs (by exact hBA6.size) ?_
  intro v9 w9 hb9 hbl9
  refine hK.out _ _ ?_
  clear hK K
  refine norm_ (a' := ?_) ?_ ?_
  rotate_left
  · show Act.put _ (some 45) _ = _
    simp only [Act.put, List.setIfInBounds_toArray, List.set_cons_zero, List.set_cons_succ, i64_w, i32_w]
    rfl
  refine pure_ (i := 40) (N := some 3) (v := ?_) (a' := ?_) #[true, true, true, true, true, true, true, true, true, true, true, true, true, true, true, true, true, true, true, true, true, true, true, true, true, true, true, true, true, true, true, true, true, true, true, true, true, true, true, true, true] rfl rfl (by kernel_rfl) (fun _ _ _ h => h) (Or.inl ⟨by rfl, ?_⟩) ?_ ?_
  rotate_left
  · intro w'
    go_simp
    with_reducible rfl
  rotate_left
  · simp only [Act.put, List.setIfInBounds_toArray, List.set_cons_zero, List.set_cons_succ, i64_w, i32_w]
    rfl
  refine done_ (by kernel_rfl) ?_


  have d7 := pw_cell_below hbl9 hHeld.2.2.2.2.2.2.2
  have HBUF : Aside0 (Buf w9 w.heap.size v9 (headL ⟨code, cls, sel, at_, num, st, used, text⟩ ++ [10])) := ⟨by rw [← refHead_list]; exact hb9⟩
  have HW9 := Aside0.mk (below_then hBA6 hBA6.size hbl9)
  clear hb9 hbl9 hHeld hBA0 hBA1 hBA2 hBA3 hBA4 hBA5 hBA6 hBB0 hBB1 hBB2 hBB3 hBB4 hBB5 hBB6 y1 y2 y3 y4 y5 y6 y7 y8 y9 y10 y11 y12 y13 y14 hXs d0 d1 d2 d3 d4 d5 d6
  obtain ⟨g9, c9, rfl, _⟩ := HBUF.out.form
  obtain ⟨H, hH⟩ : ∃ H, headL ⟨code, cls, sel, at_, num, st, used, text⟩ ++ [10] = H := ⟨_, rfl⟩
  rw [hH] at HBUF
  have hHl : H.length ≤ 7000001 := by rw [← hH, List.length_append]; simp; omega
  have HH := Aside0.mk hH
  rw [hH]
  clear hH hhl
  have hcv := buf_string w9 w.heap.size _ H HBUF.out
  cases hte : text.toList.isEmpty with
  | true =>
    go_wp2
    go_ret
    refine ⟨?_, HW9.out⟩
    have ht : text.data.toList = [] := by rw [← ByteArray.toList_eq]; exact List.isEmpty_iff.1 hte
    have e : tellL ⟨code, cls, sel, at_, num, st, used, text⟩ = H := by unfold tellL; rw [← HH.out]; simp [ht]
    rw [e]; rfl
  | false =>
    clear hcv
    have htn : text.data.toList ≠ [] := by rw [← ByteArray.toList_eq]; intro e; rw [e] at hte; simp at hte
    have htx : text.size ≤ 1048576 := HA.out.text
    have htl : text.data.toList.length = text.size := by rw [Array.length_toList]; rfl
    have htold := told_len text.data.toList htn
    have HFIN : Aside0 (tellL ⟨code, cls, sel, at_, num, st, used, text⟩ = H ++ toldLines (linesOf text.data.toList [])) := ⟨by unfold tellL; rw [if_neg htn, told_text _ htn, ← HH.out]⟩
    have hg9 : g9 < w9.heap.size := by
      obtain ⟨g, cap, e, ⟨_, h2⟩, _⟩ := HBUF.out
      cases e; exact h2
    clear htn
    go_wp2_with fail
    refine (lines_calls text htx _).mono ?_; rintro e w10 ⟨v10, D, rfl, hR10, hD, hDl, hB10⟩
    obtain ⟨A10, c10, rfl⟩ := Kd.R_slice hR10
    have HR10 : Aside0 (Kd.R Kd.string 9 w10 w9.heap.size (fun k => (Value.slice A10 D.length c10).ownBlock = some k) (.slice A10 D.length c10) D) := ⟨Kd.R_of_own (enc := Value.string) (h1 := fun _ => rfl) (Kd.own_of_R (enc := Value.string) (h1 := fun _ => rfl) hR10) (fun _ hk => hk)⟩
    have HB10 := Aside0.mk (HBUF.out.below hB10)
    have HW10 := Aside0.mk (below_then HW9.out HW9.out.size hB10)
    rw [← hD] at htold HFIN
    have HBASE : Aside0 (∀ q, (Value.slice A10 D.length c10).ownBlock = some q → w9.heap.size ≤ q) := ⟨fun q hq => Kd.R_base HR10.out q hq⟩
    clear hR10 hB10 hD HBUF d7
    go_wp2_with fail
    go_loopw [3, 5] (fun v i wr' => ∃ (k : Nat), i = .int .i64 (k : Int) ∧ k ≤ D.length ∧ Aside0 (Buf wr' w.heap.size v (H ++ toldLines ((D.map (·.data.toList)).take k))) ∧ Aside0 (Below w.heap.size w wr') ∧ Aside0 (Kd.R Kd.string 9 wr' w9.heap.size (fun q => (Value.slice A10 D.length c10).ownBlock = some q) (.slice A10 D.length c10) D) ∧ Aside0 (∀ q, v.ownBlock = some q → (Value.slice A10 D.length c10).ownBlock ≠ some q)) (fun _ i _ => D.length - (intOf i).toNat)
    case atStart => exact ⟨0, rfl, by omega, ⟨by simpa [toldLines] using HB10.out⟩, HW10, HR10, ⟨fun q hq hq2 => by
      have h1 := HBASE.out q hq2
      have h2 : g9 = q := Option.some.inj hq
      omega⟩⟩
    case round =>
      clear HB10 HW10 HR10
      obtain ⟨k, rfl, hk, HB, HW, HR, HNE⟩ := hrel
      obtain ⟨L, hL⟩ : ∃ L, L = H ++ toldLines ((D.map (·.data.toList)).take k) := ⟨_, rfl⟩
      rw [← hL] at HB
      obtain ⟨g3, c3, rfl, _⟩ := HB.out.form
      have hbs := HW.out.size
      by_cases hlt : k < D.length
      · have b1 : decide ((k : Int) < (D.length : Int)) = true := decide_eq_true (by omega)
        have p0 : (0 : Int) ≤ (k : Int) := by omega
        have p1 : (k : Int) < (D.length : Int) := by omega
        obtain ⟨_, _, hC⟩ := Kd.R_reads' HR.out
        obtain ⟨ad, rfl, hcell⟩ := Kd.at_string hC (k : Int) p0 p1
        rw [Int.toNat_natCast] at hcell
        obtain ⟨x, hxk⟩ : ∃ x, D[k]? = some x := ⟨_, List.getElem?_eq_getElem hlt⟩
        have hrd : rdOf ByteArray.empty D (k : Int) = x := by unfold rdOf; rw [Int.toNat_natCast, List.getD_eq_getElem?_getD, hxk]; rfl
        rw [hrd] at hcell
        have hxl : (D.map (·.data.toList))[k]? = some x.data.toList := by rw [List.getElem?_map, hxk]; rfl
        have hsn := told_snoc _ k _ hxl
        have htk := told_take (D.map (·.data.toList)) (k + 1)
        have hxs : x.data.toList.length = x.size := by rw [Array.length_toList]; rfl
        have hLl : L.length + x.size + 3 ≤ 11000000 := by
          rw [hL, List.length_append]
          rw [hsn, List.length_append] at htk
          simp only [List.length_append, List.length_cons, List.length_nil] at htk
          omega
        have htxs : ((({ data := #[46, 32] } : ByteArray) ++ x) ++ { data := #[10] }).size = x.size + 3 := by
          rw [ByteArray.size_append, ByteArray.size_append]
          show 2 + x.size + 1 = _
          omega
        have htxl : ((({ data := #[46, 32] } : ByteArray) ++ x) ++ { data := #[10] }).data.toList = [46, 32] ++ x.data.toList ++ [10] := by simp [ByteArray.data_append]
        have HNX : Aside0 (L ++ ((({ data := #[46, 32] } : ByteArray) ++ x) ++ { data := #[10] }).data.toList = H ++ toldLines ((D.map (·.data.toList)).take (k + 1))) := ⟨by rw [htxl, hL, hsn, List.append_assoc]⟩
        have HLL := Aside0.mk hL
        have s1 : ¬ (9223372036854775807 < 2 + x.size) := by omega
        have s2 : ¬ (9223372036854775807 < 2 + x.size + 1) := by omega
        have HTS := Aside0.mk htxs
        clear hL hrd hxl hsn htk hxs htxl hC htxs
        go_wp2_with (at_builtin; refine buf_apps2 wr w.heap.size rfl (.tmp 60) (.tmp 66) rfl _ L rfl ((({ data := #[46, 32] } : ByteArray) ++ x) ++ { data := #[10] }) rfl (by exact HB.out) (by rw [HTS.out]; omega) (by exact hbs) (by rw [HTS.out]; omega) ?_; intro v1 w1 h1 h2 h3 h4; have HB1 := Aside0.mk h1; have HW1 := Aside0.mk (HW.out.trans h2); have HO1 := Aside0.mk h3; have HA1 := Aside0.mk h4; clear h1 h2 h3 h4)
        go_roundw
        case rel =>
          refine ⟨k + 1, by go_num, by omega, ⟨by rw [← HNX.out]; exact HB1.out⟩, HW1, ⟨Kd.R_step HR.out (fun q hq hl => HO1.out q hl (fun e => HNE.out q e hq))⟩, ⟨fun q hq hq2 => ?_⟩⟩
          rcases HA1.out with e | ⟨b, e, hb⟩
          · exact HNE.out q (e.symm.trans hq) hq2
          · have := Option.some.inj (e.symm.trans hq)
            have := Kd.R_lt HR.out q hq2
            omega
        case measure => simp [intOf]; omega
      · have b1 : decide ((k : Int) < (D.length : Int)) = false := decide_eq_false (by omega)
        have hcv := buf_string wr w.heap.size _ L HB.out
        have HLL := Aside0.mk hL
        clear hL
        go_wp2
        go_ret
        refine ⟨?_, HW.out⟩
        have e : tellL ⟨code, cls, sel, at_, num, st, used, text⟩ = L := by rw [HFIN.out, HLL.out, List.take_of_length_le (by rw [List.length_map]; omega)]
        rw [e]; rfl
end Go.Proofs.YtkfjjmmpbfjhaaaDoor.Tells
