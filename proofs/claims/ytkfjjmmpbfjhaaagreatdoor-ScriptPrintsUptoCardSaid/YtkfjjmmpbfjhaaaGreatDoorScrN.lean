/- kilnref24.line: its letters in plain words; a buffer of bytes that grows. Conditions: those that each theorem states. -/
import Derived.Test.YtkfjjmmpbfjhaaaGreatDoorScrM
namespace Go.Proofs.YtkfjjmmpbfjhaaaGreatDoor.Tells
open Go.RowKit Go.Proofs.YtkfjjmmpbfjhaaaGreatDoor.Facts Go.Proofs.YtkfjjmmpbfjhaaaGreatDoor.PScriptActs Go.Proofs.YtkfjjmmpbfjhaaaGreatDoorW.PrintWords Go.Proofs.YtkfjjmmpbfjhaaaGreatDoorW.PrintLast Go.Proofs.YtkfjjmmpbfjhaaaGreatDoorW.PrintMore
attribute [local go_sem] max2_int min2_int max_two min_two max_three min_three max_four min_four
set_option linter.unusedVariables false
set_option linter.unusedSimpArgs false
set_option maxRecDepth 100000 in
theorem conv_run (W : World) (base : Nat) (X : ByteArray) (hX : X.size ≤ 1000000000) (hb : base ≤ W.heap.size) : ∃ v w1, (convert 9 72 (.string X)).run Tryz.prog W = .ok v w1 ∧ Buf w1 base v X.data.toList ∧ Below W.heap.size W w1 := by
  have hrun := run_bytes_of_string (P := Tryz.prog) W 9 72 5 X Tryz.underlying9 Tryz.underlying72 Tryz.underlying5
  have hsl : X.data.toList.length = X.size := by rw [Array.length_toList]; rfl
  have hge := grownCap_ge W X.size 0 5
  have hcm : grownCap W X.size 0 5 ≤ maxLen := grownCap_le_maxLen W X.size 0 5 (by unfold maxLen; omega)
  refine ⟨_, _, hrun, ?_, ⟨rfl, rfl, rfl, by simp, fun k hk => heap_alloc_old W.drew _ (by exact hk)⟩⟩
  have hsz : (bytesRow X (grownCap W X.size 0 5)).size = grownCap W X.size 0 5 := by
    unfold bytesRow
    rw [Array.size_append, Array.size_map, Array.size_replicate]
    have : X.data.size = X.size := rfl
    omega
  have hh := heap_alloc_new W.drew (.cells (bytesRow X (grownCap W X.size 0 5)) 5 ((bytesRow X (grownCap W X.size 0 5)).size, (bytesRow X (grownCap W X.size 0 5)).size + 1))
  have hB := buf_new (base := base) (l := X.data.toList) (cap := grownCap W X.size 0 5) hh (by exact hb) (fun j hj => by
    unfold World.frozen?
    rw [hh]
    simp only
    rw [hsz]
    simp
    omega) ⟨by rw [hsl]; exact hge, hcm⟩ (by rw [hsz]; exact Nat.le_refl _) (fun j u hu => by
    unfold bytesRow
    have hj : j < X.data.toList.length := by have := (List.getElem?_eq_some_iff.1 hu).1; rw [Lib.byteCells_length] at this; exact this
    rw [Array.getElem?_append_left (by rw [Array.size_map]; rw [Array.length_toList] at hj; exact hj), Array.getElem?_map, ← Array.getElem?_toList]
    simpa [Lib.byteCells] using hu)
  rw [hsl] at hB
  exact hB
section
variable {ops : Array Oper} {rest : List Oper} {o : Oper} {a : Act} {Q : Exit → Act → World → Prop} {K : Act → World → Prop}
end
section
variable {ops : Array Oper} {rest : List Oper} {o : Oper} {a : Act} {Q : Exit → Act → World → Prop}
end
set_option maxRecDepth 100000 in
/-- what an append of a string gives -/
theorem buf_run_string2 (W : World) (base : Nat) (v : Value) (l : List UInt8) (hB : Buf W base v l) (s : ByteArray) (ty : Nat) (hl : l.length + s.size ≤ 140737488355328) (hbase : base ≤ W.heap.size) (hy : 0 < s.size) :
    ∃ v1 w1, (Builtin.append_ #[72, 9] ty #[v, .string s]).run Tryz.prog W = .ok v1 w1 ∧ Buf w1 base v1 (l ++ s.data.toList) ∧ Below base W w1 ∧ (∀ k, k < W.heap.size → v.ownBlock ≠ some k → w1.heap[k]? = W.heap[k]?) ∧ (v1.ownBlock = v.ownBlock ∨ ∃ b, v1.ownBlock = some b ∧ W.heap.size ≤ b) := by
  obtain ⟨i0, hi, hzz⟩ := Option.map_eq_some_iff.1 info5
  simp only [Prod.mk.injEq] at hzz
  obtain ⟨hz0, hz1, hz2⟩ := hzz
  obtain ⟨g, cap, rfl, ⟨h1, h2⟩, ⟨h3, h3'⟩, h4, h5⟩ := hB
  have hsl : s.data.toList.length = s.size := by rw [Array.length_toList]; rfl
  have hlen : (Lib.strCells s).length = s.size := Lib.strCells_length s
  have hsc : Lib.strCells s = Lib.byteCells s.data.toList := rfl
  have happ : Lib.byteCells l ++ Lib.strCells s = Lib.byteCells (l ++ s.data.toList) := by rw [hsc]; simp [Lib.byteCells]
  by_cases hr : l.length + s.size ≤ cap
  · have hf := Lib.run_firstCells_string (P := Tryz.prog) W 1 s
    have hst := run_storeCells_cells (P := Tryz.prog) g l.length (Lib.strCells s) 0 W (fun j hj => by have := (h5 (l.length + j) (by omega)).1; simpa using this) (fun j hj => by have := (h5 (l.length + j) (by omega)).2; simpa using this) (Lib.strCells_oneCell s)
    simp only [Nat.add_zero] at hst
    have hrun : (Builtin.append_ #[72, 9] ty #[.slice (some ⟨g, 0, none⟩) l.length cap, .string s]).run Tryz.prog W = .ok (.slice (some ⟨g, 0, none⟩) (l.length + s.size) cap) (W.setCells g l.length (Lib.strCells s)) := by
      simp [Builtin.append_, run_underlying Tryz.underlying72, run_underlying Tryz.underlying9, sizeOf, typeInfo, hi, hz1, Builtin.lenOf, hr, hf, Addr.add_lit, hst]
    have hth : W.there g l.length (Lib.strCells s).length := fun j hj => by have := h5 (l.length + j) (by omega); simpa using this
    refine ⟨_, _, hrun, ⟨g, cap, by rw [List.length_append, hsl], ⟨h1, by rw [(setCells_same g _ _ W).2.2.2]; exact h2⟩, ⟨by rw [List.length_append, hsl]; exact hr, h3'⟩, ?_, World.there_setCells h5 _ _ _⟩, below_setCells W g _ _ h1, fun k hk hne => setCells_far _ _ k (by rintro rfl; exact hne rfl), .inl rfl⟩
    intro j u hu
    rw [← happ] at hu
    by_cases hj : j < (Lib.byteCells l).length
    · rw [List.getElem?_append_left hj] at hu
      exact World.rangeAt_setCells_apart h4 g l.length (Lib.strCells s) (.inr (.inl (by rw [Lib.byteCells_length]; omega))) j u hu
    · rw [List.getElem?_append_right (by omega)] at hu
      have := World.rangeAt_setCells_same W g l.length (Lib.strCells s) hth (j - (Lib.byteCells l).length) u hu
      rw [Lib.byteCells_length] at this hj
      rw [show l.length + (j - l.length) = 0 + j by omega] at this
      exact this
  · have hrun := Lib.run_append_grow_string (P := Tryz.prog) W 72 9 ty 5 i0 (.int .u8 0) Tryz.underlying72 Tryz.underlying9 hi hz0 ⟨g, 0, none⟩ l.length cap (Lib.byteCells l) (by rw [Lib.byteCells_length, hz1]; omega) (fun j u hu => by rw [Addr.add_lit]; exact h4 j u hu) s (by omega) (by omega) (growslice_fits (by omega) (by rw [hz2]; omega))
    have hge := grownCap_ge W (l.length + s.size) cap 5
    have hcm : grownCap W (l.length + s.size) cap 5 ≤ maxLen := grownCap_le_maxLen W (l.length + s.size) cap 5 (by unfold maxLen; omega)
    have hsz : grownCap W (l.length + s.size) cap 5 ≤ ((Lib.byteCells l).toArray ++ (Lib.strCells s).toArray ++ Builtin.zeroCells (Value.int .u8 0).cells (grownCap W (l.length + s.size) cap 5 - (l.length + s.size))).size := by
      simp [size_zeroCells, Lib.byteCells_length, hlen, Value.cells]; omega
    have hby : ∀ j u, (Lib.byteCells (l ++ s.data.toList))[j]? = some u → ((Lib.byteCells l).toArray ++ (Lib.strCells s).toArray ++ Builtin.zeroCells (Value.int .u8 0).cells (grownCap W (l.length + s.size) cap 5 - (l.length + s.size)))[j]? = some u := fun j u hu => by
      rw [← happ] at hu
      have hj : j < (Lib.byteCells l ++ Lib.strCells s).length := (List.getElem?_eq_some_iff.1 hu).1
      rw [Array.getElem?_append_left (by simpa using hj)]
      simpa using hu
    have hb := heap_alloc_new W.drew (.cells ((Lib.byteCells l).toArray ++ (Lib.strCells s).toArray ++ Builtin.zeroCells (Value.int .u8 0).cells (grownCap W (l.length + s.size) cap 5 - (l.length + s.size))) 5)
    refine ⟨_, _, hrun, ?_, ⟨rfl, rfl, rfl, by simp, fun k hk => heap_alloc_old W.drew _ (by exact Nat.lt_of_lt_of_le hk hbase)⟩, fun k hk _ => heap_alloc_old W.drew _ (by exact hk), .inr ⟨_, rfl, Nat.le_refl _⟩⟩
    have hB := buf_new (base := base) (l := l ++ s.data.toList) hb (by exact hbase) (fun j _ => blk_frozen hb j) ⟨by rw [List.length_append, hsl]; exact hge, hcm⟩ hsz hby
    rw [List.length_append, hsl] at hB
    exact hB
section
variable {ops : Array Oper} {rest : List Oper} {o : Oper} {a : Act} {Q : Exit → Act → World → Prop} {K : Act → World → Prop}
theorem buf_apps2 (W : World) (base : Nat) (hgd : o.guard = none) (s x : Operand) (ho : o.op = .call { callee := .builtin .append, args := #[s, x], argTypes := #[72, 9] }) (v : Value) (l : List UInt8) (hs : a.eval s = v) (t : ByteArray) (hx : a.eval x = .string t)
    (hB : Buf W base v l) (hl : l.length + t.size ≤ 140737488355328) (hbase : base ≤ W.heap.size) (hy : 0 < t.size)
    (h : ∀ v1 w1, Buf w1 base v1 (l ++ t.data.toList) → Below base W w1 → (∀ k, k < W.heap.size → v.ownBlock ≠ some k → w1.heap[k]? = W.heap[k]?) → (v1.ownBlock = v.ownBlock ∨ ∃ b, v1.ownBlock = some b ∧ W.heap.size ≤ b) → wpList Tryz.prog ops Q rest (a.put o.dst v1) w1) : wpList Tryz.prog ops Q (o :: rest) a W := by
  obtain ⟨v1, w1, hr, hb1, hb2, hb3, hb4⟩ := buf_run_string2 W base v l hB t o.type hl hbase hy
  refine wpList_plain hgd fun K hK' => ?_
  unfold Oper.wp
  simp [execOp, ho, resolve, invoke, builtin, hs, hx, hr, Result.andThen]
  exact hK' _ _ (h v1 w1 hb1 hb2 hb3 hb4)
end
/-- the letters of an act's shape -/
def formL : List ByteArray := [⟨#[]⟩, ⟨#[110, 111, 42]⟩, ⟨#[110, 116]⟩, ⟨#[110, 111]⟩, ⟨#[110]⟩, ⟨#[116]⟩, ⟨#[35, 102]⟩, ⟨#[110, 42]⟩, ⟨#[]⟩, ⟨#[]⟩, ⟨#[35]⟩, ⟨#[]⟩, ⟨#[116]⟩]
def wordL : List ByteArray := ⟨#[]⟩ :: nameL
def formOf (k : Int) : ByteArray := formL.getD k.toNat ⟨#[]⟩
/-- what a letter adds to a line -/
def pieceL (a : S31) (c : UInt8) : List ByteArray :=
  if c = 110 then [wordB a.f1] else if c = 111 then [wordB a.f2] else if c = 116 then [wordB a.f4] else if c = 35 then [itoaB a.f5] else if c = 102 then [itoaB a.f6] else a.f3.map wordB
/-- what a letter takes over -/
def putL (a b : S31) (c : UInt8) : S31 :=
  if c = 110 then { b with f1 := a.f1 } else if c = 111 then { b with f2 := a.f2 } else if c = 116 then { b with f4 := a.f4 } else if c = 35 then { b with f5 := a.f5 } else if c = 102 then { b with f6 := a.f6 } else { b with f3 := a.f3 }
def spaced (l : List ByteArray) : List UInt8 := l.flatMap fun p => 32 :: p.data.toList
def soFar (a : S31) (i : Nat) : List UInt8 := (nameOf a.f0).data.toList ++ ((formOf a.f0).data.toList.take i).flatMap fun c => spaced (pieceL a c)
def actFar (a : S31) (i : Nat) : S31 := ((formOf a.f0).data.toList.take i).foldl (putL a) (act0 a.f0)
theorem spaced_join : ∀ (n : List UInt8) (l : List ByteArray), Lib.join (n :: l.map (·.data.toList)) [32] = n ++ spaced l
  | n, [] => by rw [List.map_nil, Lib.join_one]; simp [spaced]
  | n, b :: r => by
    have e : Lib.join (n :: (b :: r).map (·.data.toList)) [32] = n ++ 32 :: Lib.join (b.data.toList :: r.map (·.data.toList)) [32] := by
      unfold Lib.join; simp [List.intercalate]
    rw [e, spaced_join b.data.toList r]
    simp [spaced]
theorem kinds12 (k : Int) (h : 1 ≤ k ∧ k ≤ 12) : k = 1 ∨ k = 2 ∨ k = 3 ∨ k = 4 ∨ k = 5 ∨ k = 6 ∨ k = 7 ∨ k = 8 ∨ k = 9 ∨ k = 10 ∨ k = 11 ∨ k = 12 := by omega
theorem soFar_all (a : S31) (h : 1 ≤ a.f0 ∧ a.f0 ≤ 12) : soFar a (formOf a.f0).data.toList.length = lineL a := by
  unfold soFar lineL
  rw [List.map_cons, spaced_join, List.take_length]
  congr 1
  unfold behind
  rcases kinds12 _ h with e | e | e | e | e | e | e | e | e | e | e | e <;> rw [e] <;> simp [formOf, formL, pieceL, spaced]
theorem actFar_all (a : S31) (h : 1 ≤ a.f0 ∧ a.f0 ≤ 12) : actFar a (formOf a.f0).data.toList.length = only a := by
  unfold actFar only
  rw [List.take_length]
  rcases kinds12 _ h with e | e | e | e | e | e | e | e | e | e | e | e <;> rw [e] <;> simp [formOf, formL, putL, act0, nil_]
theorem letters (k : Int) (h : 1 ≤ k ∧ k ≤ 12) (i : Nat) (c : UInt8) (hc : (formOf k).data.toList[i]? = some c) : (c = 110 ∨ c = 111 ∨ c = 116 ∨ c = 35 ∨ c = 102 ∨ c = 42) ∧ i < 3 ∧ (c = 42 → i + 1 = (formOf k).data.toList.length) := by
  rcases kinds12 _ h with rfl | rfl | rfl | rfl | rfl | rfl | rfl | rfl | rfl | rfl | rfl | rfl <;> simp only [formOf, formL] at hc ⊢ <;>
    rcases i with _ | _ | _ | i <;> simp at hc <;> subst hc <;> simp
theorem soFar_next (a : S31) (i : Nat) (c : UInt8) (hc : (formOf a.f0).data.toList[i]? = some c) : soFar a (i + 1) = soFar a i ++ spaced (pieceL a c) := by
  unfold soFar
  rw [List.take_add_one, hc]
  simp
theorem actFar_next (a : S31) (i : Nat) (c : UInt8) (hc : (formOf a.f0).data.toList[i]? = some c) : actFar a (i + 1) = putL a (actFar a i) c := by
  unfold actFar
  rw [List.take_add_one, hc]
  simp
theorem soFar_0 (a : S31) : soFar a 0 = (nameOf a.f0).data.toList := by simp [soFar]
theorem actFar_0 (a : S31) : actFar a 0 = act0 a.f0 := by simp [actFar]
theorem form_len (k : Int) : (formOf k).data.toList.length ≤ 3 := by
  have key : ∀ j, j < 14 → (formL.getD j ⟨#[]⟩).data.toList.length ≤ 3 := by decide +kernel
  unfold formOf
  by_cases h : k.toNat < 13
  · exact key _ (by omega)
  · have : formL.getD k.toNat ⟨#[]⟩ = ⟨#[]⟩ := by rw [List.getD_eq_getElem?_getD, List.getElem?_eq_none (by show 13 ≤ _; omega)]; rfl
    rw [this]; simp
end Go.Proofs.YtkfjjmmpbfjhaaaGreatDoor.Tells
