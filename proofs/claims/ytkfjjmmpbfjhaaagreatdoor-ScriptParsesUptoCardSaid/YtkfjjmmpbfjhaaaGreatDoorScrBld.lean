/- The readers of script, walked: unhexed, unwritten. strings.Builder's WriteRune and WriteString at this dump, with the frame that reaches above the builder: the shelf's contracts, laid by hand (as Build). Conditions: those that each theorem states. -/
import Derived.Test.YtkfjjmmpbfjhaaaGreatDoorScrPure
import Derived.Test.YtkfjjmmpbfjhaaaGreatDoorScrPB
import Derived.Test.YtkfjjmmpbfjhaaaGreatDoorFacts
import Derived.Test.YtkfjjmmpbfjhaaaGreatDoorBuild
import Derived.Shelf.Strings.BuilderRune
import Derived.Shelf.Strings.BuilderK
namespace Go.Proofs.YtkfjjmmpbfjhaaaGreatDoor.Tells
open Go.RowKit Go.Proofs.YtkfjjmmpbfjhaaaGreatDoor.Facts Go.Proofs.YtkfjjmmpbfjhaaaGreatDoor.PScriptActs Go.Proofs.YtkfjjmmpbfjhaaaGreatDoorW.PrintWords Go.Proofs.YtkfjjmmpbfjhaaaGreatDoorW.PrintLast Go.Proofs.YtkfjjmmpbfjhaaaGreatDoorW.PrintMore
attribute [local go_sem] max2_int min2_int max_two min_two max_three min_three max_four min_four
set_option linter.unusedVariables false
set_option linter.unusedSimpArgs false
/-- a digit's place, as IndexByte tells it -/
def hexi (c : UInt8) : Int := Lib.indexByte digB.data.toList c
theorem hexi_v : ∀ c : Fin 256, hexi (UInt8.ofNat c.val) = if hexv (UInt8.ofNat c.val) < 16 then (hexv (UInt8.ofNat c.val) : Int) else -1 := by decide +kernel
theorem hexi_eq (c : UInt8) : hexi c = if hexv c < 16 then (hexv c : Int) else -1 := by
  have := hexi_v ⟨c.toNat, c.toNat_lt⟩
  simpa using this
theorem eqF {F : Nat} {args : Array Value} {w : World} {X : Value} (e : Nat) (h : Calls Tryz.prog F args w fun en w' => en = .returned X ∧ Below w.heap.size w w') : Calls Tryz.prog F args w fun en w' => ∃ v, en = .returned v ∧ (Fact.eq X).f e v w' ∧ Below w.heap.size w w' := h.mono fun en w' h => ⟨X, h.1, rfl, h.2⟩
theorem hex_calls (c : UInt8) (v : Int) (hv : hexi c = v) (W : World) : Calls Tryz.prog 119 #[.string ⟨#[48, 49, 50, 51, 52, 53, 54, 55, 56, 57, 97, 98, 99, 100, 101, 102]⟩, .int .u8 (c.toNat : Int)] W fun e w' => e = .returned (.int .i64 v) ∧ Below W.heap.size W w' := by
  refine (Tryz.strings_IndexByte digB (c.toNat : Int) W).mono ?_
  rintro e w' ⟨rfl, rfl⟩
  refine ⟨?_, Below.refl _ _⟩
  have e2 : (c.toNat : Int).toNat.toUInt8 = c := by simp
  rw [e2, ← hv]; rfl
theorem nib_or : ∀ a b : Fin 16, bits BinOp.or IntKind.i64 (wrap64 ((a.val : Int) * 16)) (b.val : Int) = ((a.val * 16 + b.val : Nat) : Int) := by decide +kernel
set_option maxHeartbeats 4000000 in
set_option maxRecDepth 100000 in
theorem unhexed_good (s : ByteArray) (a b : UInt8) (hs : s.data.toList = [a, b]) (m n : Nat) (hm : hexi a = (m : Int)) (hn : hexi b = (n : Int)) (hm16 : m < 16) (hn16 : n < 16) (w : World) :
    Calls Tryz.prog 105 #[.string s] w fun e w' => e = .returned (.tuple #[.string ⟨#[UInt8.ofNat (m * 16 + n)]⟩, .bool true]) ∧ Below w.heap.size w w' := by
  have hsz : s.size = 2 := by have := congrArg List.length hs; rw [Array.length_toList] at this; exact this
  obtain ⟨i0, hi, hzz⟩ := Option.map_eq_some_iff.1 info5
  simp only [Prod.mk.injEq] at hzz
  obtain ⟨hz0, hz1, hz2⟩ := hzz
  have hmk : ∀ u : World, (Instr.makeSlice 72 (.int .i64 0) (.int .i64 1)).run Tryz.prog u = .ok (.slice (some ⟨u.heap.size, 0, none⟩) 0 1) (u.alloc (.cells #[.int .u8 0] 5)) := fun u => by
    have h := run_make (P := Tryz.prog) u 72 5 i0 (.int .u8 0) Tryz.underlying72 hi hz0 .i64 .i64 0 1 (by omega) (by omega) (by rw [hz2]; omega) (by omega)
    have e : (Array.map (fun x => [Value.int IntKind.u8 0][x % 1]?.getD default) (Array.range 1)) = #[Value.int .u8 0] := by
      refine Array.ext (by simp) (fun i h1 h2 => ?_)
      have hi2 : i = 0 := by simp at h2; omega
      subst hi2; simp
    simpa [hz1, Value.cells, madeCells, e] using h
  have HX0 : Aside0 (∀ h : 0 < s.size, ((s[0]'h).toNat : Int) = (a.toNat : Int)) := ⟨fun h => by
    have h1 : s.data.toList[0]? = some (s[0]'h) := by rw [Array.getElem?_toList, Array.getElem?_eq_getElem (show 0 < s.data.size from h)]; rfl
    rw [hs] at h1; cases h1; rfl⟩
  have HX1 : Aside0 (∀ h : 1 < s.size, ((s[1]'h).toNat : Int) = (b.toNat : Int)) := ⟨fun h => by
    have h1 : s.data.toList[1]? = some (s[1]'h) := by rw [Array.getElem?_toList, Array.getElem?_eq_getElem (show 1 < s.data.size from h)]; rfl
    rw [hs] at h1; cases h1; rfl⟩
  have HAB : Aside0 (hexi a = (m : Int) ∧ hexi b = (n : Int)) := ⟨hm, hn⟩
  obtain ⟨q, hq⟩ : ∃ q, q = m * 16 + n := ⟨_, rfl⟩
  have hor : bits BinOp.or IntKind.i64 ((m : Int) * 16) (n : Int) = (q : Int) := by
    have h1 := nib_or ⟨m, hm16⟩ ⟨n, hn16⟩
    have h2 : wrap64 ((m : Int) * 16) = (m : Int) * 16 := by unfold wrap64; omega
    simp only [h2] at h1
    rw [hq, h1]
  have hq2 : (q : Int) % 256 = (q : Int) := by omega
  have HQ := Aside0.mk hq
  have HQC : Aside0 (∀ W : World, ∀ j u, (Lib.byteCells [UInt8.ofNat q])[j]? = some u → (W.alloc (.cells #[.int .u8 (q : Int)] 5)).cell? ((⟨W.heap.size, 0, none⟩ : Addr).add j) = some u) := ⟨fun W => by
    have e : Lib.byteCells [UInt8.ofNat q] = (#[Value.int .u8 (q : Int)] : Array Value).toList := by
      have : (UInt8.ofNat q).toNat = q := by rw [UInt8.toNat_ofNat']; omega
      simp [Lib.byteCells, this]
    rw [e]
    exact lit_cells W _⟩
  have HCA : Aside0 (∀ W, Calls Tryz.prog 119 #[.string ⟨#[48, 49, 50, 51, 52, 53, 54, 55, 56, 57, 97, 98, 99, 100, 101, 102]⟩, .int .u8 (a.toNat : Int)] W fun e w' => e = .returned (.int .i64 (m : Int)) ∧ Below W.heap.size W w') := ⟨fun W => hex_calls a _ hm W⟩
  have HCB : Aside0 (∀ W, Calls Tryz.prog 119 #[.string ⟨#[48, 49, 50, 51, 52, 53, 54, 55, 56, 57, 97, 98, 99, 100, 101, 102]⟩, .int .u8 (b.toNat : Int)] W fun e w' => e = .returned (.int .i64 (n : Int)) ∧ Below W.heap.size W w') := ⟨fun W => hex_calls b _ hn W⟩
  clear hs hz0 hz1 hz2 hi hm hn
  clear hq
  go_enter Tryz.func105, Tryz.ntmps105
  have hb0 := heap_alloc_new w (.cells #[.int .u8 0] 5)
  have HB0 : Aside0 (Buf (w.alloc (.cells #[.int .u8 0] 5)) w.heap.size (.slice (some ⟨w.heap.size, 0, none⟩) 0 1) []) := ⟨buf_new (l := []) hb0 (Nat.le_refl _) (fun j _ => blk_frozen hb0 j) ⟨by simp, by unfold maxLen; decide⟩ (by simp) (by intro j u hu; simp [Lib.byteCells] at hu)⟩
  clear hb0
  go_wp2_with fail
  refine wp_loop_rounds 2 ?_
  rw [rounds_succ]
  have hd : decide ((0 : Int) + 1 < 2) = true := by decide
  go_wp2_with fail
  refine region_facts (ws := []) (G := fun _ w' => Aside0 (Below w.heap.size w w' ∧ Buf w' w.heap.size (.slice (some ⟨w.heap.size, 0, none⟩) 0 1) [])) (φs := [Fact.eq ?vu0, Fact.eq ?vu1, Fact.eq (.int .u8 (a.toNat : Int)), Fact.eq (.int .i64 (m : Int)), Fact.eq ?vu4, Fact.eq ?vu5, Fact.eq (.int .i64 1), Fact.eq (.int .u8 (b.toNat : Int)), Fact.eq (.int .i64 (n : Int)), Fact.eq ?vu9, Fact.eq ?vu10]) (n := 11) (m := 48) (by kernel_rfl) (by kernel_rfl) rfl rfl (by kernel_rfl) (fun _ _ _ h hb => ⟨below_then h.out.1 h.out.1.size hb, h.out.2.below hb⟩) (⟨below_drew (below_alloc (Below.refl _ _) _), HB0.out.below (below_drew (Below.refl _ _))⟩) ⟨?ou0, ?ou1, ?ou2, ?ou3, ?ou4, ?ou5, ?ou6, ?ou7, ?ou8, ?ou9, ?ou10, trivial⟩ ?finu
  case ou0 =>
    refine ask_val [.fix 0 _] rfl 19 rfl (.inl rfl) ⟨⟨by kernel_rfl, by conv => lhs; whnf⟩, trivial⟩ ?_
    dsimp only [Has, Fact.eq]
    intro e ρ w' hc hf hg hG h0
    go_simp
    with_reducible rfl
  case ou1 =>
    refine ask_val [.fix 5 _] rfl 20 rfl (.inl rfl) ⟨⟨by kernel_rfl, by conv => lhs; whnf⟩, trivial⟩ ?_
    dsimp only [Has, Fact.eq]
    intro e ρ w' hc hf hg hG h5
    go_simp
    with_reducible rfl
  case ou2 =>
    refine ask_val [.op 19 0 (Fact.eq _), .op 20 1 (Fact.eq _)] rfl 21 rfl (.inl rfl) ⟨⟨by kernel_rfl, rfl⟩, ⟨by kernel_rfl, rfl⟩, trivial⟩ ?_
    dsimp only [Has, Fact.eq]
    intro e ρ w' hc hf hg hG h19 h20
    go_simp
    exact HX0.out _
  case ou3 =>
    refine ask_call [.op 21 2 (Fact.eq _)] rfl 22 rfl (.inl rfl) ⟨⟨by kernel_rfl, rfl⟩, trivial⟩ 0 0 (by kernel_rfl) 119 Tryz.func119 (by kernel_rfl) rfl rfl ?_
    dsimp only [Has, Fact.eq]
    intro e ρ w' hp hq hc hf hg hG h21
    obtain rfl : e = 0 := by omega
    refine ⟨#[.string ⟨#[48, 49, 50, 51, 52, 53, 54, 55, 56, 57, 97, 98, 99, 100, 101, 102]⟩, .int .u8 (a.toNat : Int)], by simp only [List.map_toArray, List.map_cons, List.map_nil, hc, h21], eqF 0 (HCA.out _)⟩
  case ou4 =>
    refine ask_val [.fix 0 _] rfl 23 rfl (.inl rfl) ⟨⟨by kernel_rfl, by conv => lhs; whnf⟩, trivial⟩ ?_
    dsimp only [Has, Fact.eq]
    intro e ρ w' hc hf hg hG h0
    go_simp
    with_reducible rfl
  case ou5 =>
    refine ask_val [.fix 5 _] rfl 24 rfl (.inl rfl) ⟨⟨by kernel_rfl, by conv => lhs; whnf⟩, trivial⟩ ?_
    dsimp only [Has, Fact.eq]
    intro e ρ w' hc hf hg hG h5
    go_simp
    with_reducible rfl
  case ou6 =>
    refine ask_val [.op 24 5 (Fact.eq _)] rfl 25 rfl (.inl rfl) ⟨⟨by kernel_rfl, rfl⟩, trivial⟩ ?_
    dsimp only [Has, Fact.eq]
    intro e ρ w' hc hf hg hG h24
    go_simp
    rfl
  case ou7 =>
    refine ask_val [.op 23 4 (Fact.eq _), .op 25 6 (Fact.eq _)] rfl 26 rfl (.inl rfl) ⟨⟨by kernel_rfl, rfl⟩, ⟨by kernel_rfl, rfl⟩, trivial⟩ ?_
    dsimp only [Has, Fact.eq]
    intro e ρ w' hc hf hg hG h23 h25
    go_simp
    exact HX1.out _
  case ou8 =>
    refine ask_call [.op 26 7 (Fact.eq _)] rfl 27 rfl (.inl rfl) ⟨⟨by kernel_rfl, rfl⟩, trivial⟩ 0 0 (by kernel_rfl) 119 Tryz.func119 (by kernel_rfl) rfl rfl ?_
    dsimp only [Has, Fact.eq]
    intro e ρ w' hp hq hc hf hg hG h26
    obtain rfl : e = 0 := by omega
    refine ⟨#[.string ⟨#[48, 49, 50, 51, 52, 53, 54, 55, 56, 57, 97, 98, 99, 100, 101, 102]⟩, .int .u8 (b.toNat : Int)], by simp only [List.map_toArray, List.map_cons, List.map_nil, hc, h26], eqF 0 (HCB.out _)⟩
  case ou9 =>
    refine ask_val [.op 22 3 (Fact.eq _)] rfl 6 rfl (.inl rfl) ⟨⟨by kernel_rfl, rfl⟩, trivial⟩ ?_
    dsimp only [Has, Fact.eq]
    intro e ρ w' hc hf hg hG h22
    go_simp
    with_reducible rfl
  case ou10 =>
    refine ask_val [.op 27 8 (Fact.eq _)] rfl 7 rfl (.inl rfl) ⟨⟨by kernel_rfl, rfl⟩, trivial⟩ ?_
    dsimp only [Has, Fact.eq]
    intro e ρ w' hc hf hg hG h27
    go_simp
    with_reducible rfl
  case finu =>
    intro w' hG
    refine fin_eq (fin_eq (fin_eq (fin_eq (fin_eq (fin_eq (fin_eq (fin_eq (fin_eq (fin_eq (fin_eq (fin_nil (a' := ?_) ?_ ?_)))))))))))
    rotate_left
    · simp only [Act.put, List.setIfInBounds_toArray, List.set_cons_zero, List.set_cons_succ]
      rfl
    have HF := Aside0.mk hG.out
    clear hG
    go_wp2_with (at_builtin; go_must (refine buf_app _ w.heap.size rfl (.tmp 34) (.tmp 40) rfl _ [] [UInt8.ofNat q] rfl ⟨w'.heap.size, 0, none⟩ 1 1 rfl rfl (HF.out.2.below ((Below.refl _ _).alloc (Nat.le_refl _) _)) (HQC.out w') (by simp) (by have := HF.out.1.size; simp; omega) (by simp) ?_); intro v1 w1 hb1 hw1; have HF1 : Aside0 (Below w.heap.size w w1 ∧ Buf w1 w.heap.size v1 [UInt8.ofNat q]) := ⟨⟨(HF.out.1.alloc HF.out.1.size _).trans hw1, hb1⟩⟩; clear hb1 hw1)
    obtain ⟨g3, c3, hv3, _⟩ := HF1.out.2.form
    replace hv3 : v1 = .slice (some ⟨g3, 0, none⟩) 1 c3 := hv3
    subst hv3
    have hcv := buf_string w1 w.heap.size _ [UInt8.ofNat q] HF1.out.2
    rw [rounds_succ]
    go_wp2_with fail
    go_ret2
    refine ⟨?_, HF1.out.1⟩
    rw [HQ.out]
    rfl
set_option maxHeartbeats 4000000 in
set_option maxRecDepth 100000 in
theorem unhexed_bad (s : ByteArray) (a b : UInt8) (hs : s.data.toList = [a, b]) (m n : Int) (hm : hexi a = m) (hn : hexi b = n) (hmn : m < 0 ∨ n < 0) (w : World) :
    Calls Tryz.prog 105 #[.string s] w fun e w' => e = .returned (.tuple #[.string ⟨#[]⟩, .bool false]) ∧ Below w.heap.size w w' := by
  have hsz : s.size = 2 := by have := congrArg List.length hs; rw [Array.length_toList] at this; exact this
  obtain ⟨i0, hi, hzz⟩ := Option.map_eq_some_iff.1 info5
  simp only [Prod.mk.injEq] at hzz
  obtain ⟨hz0, hz1, hz2⟩ := hzz
  have hmk : ∀ u : World, (Instr.makeSlice 72 (.int .i64 0) (.int .i64 1)).run Tryz.prog u = .ok (.slice (some ⟨u.heap.size, 0, none⟩) 0 1) (u.alloc (.cells #[.int .u8 0] 5)) := fun u => by
    have h := run_make (P := Tryz.prog) u 72 5 i0 (.int .u8 0) Tryz.underlying72 hi hz0 .i64 .i64 0 1 (by omega) (by omega) (by rw [hz2]; omega) (by omega)
    have e : (Array.map (fun x => [Value.int IntKind.u8 0][x % 1]?.getD default) (Array.range 1)) = #[Value.int .u8 0] := by
      refine Array.ext (by simp) (fun i h1 h2 => ?_)
      have hi2 : i = 0 := by simp at h2; omega
      subst hi2; simp
    simpa [hz1, Value.cells, madeCells, e] using h
  have HX0 : Aside0 (∀ h : 0 < s.size, ((s[0]'h).toNat : Int) = (a.toNat : Int)) := ⟨fun h => by
    have h1 : s.data.toList[0]? = some (s[0]'h) := by rw [Array.getElem?_toList, Array.getElem?_eq_getElem (show 0 < s.data.size from h)]; rfl
    rw [hs] at h1; cases h1; rfl⟩
  have HX1 : Aside0 (∀ h : 1 < s.size, ((s[1]'h).toNat : Int) = (b.toNat : Int)) := ⟨fun h => by
    have h1 : s.data.toList[1]? = some (s[1]'h) := by rw [Array.getElem?_toList, Array.getElem?_eq_getElem (show 1 < s.data.size from h)]; rfl
    rw [hs] at h1; cases h1; rfl⟩
  have HAB : Aside0 (hexi a = m ∧ hexi b = n) := ⟨hm, hn⟩
  have HCA : Aside0 (∀ W, Calls Tryz.prog 119 #[.string ⟨#[48, 49, 50, 51, 52, 53, 54, 55, 56, 57, 97, 98, 99, 100, 101, 102]⟩, .int .u8 (a.toNat : Int)] W fun e w' => e = .returned (.int .i64 m) ∧ Below W.heap.size W w') := ⟨fun W => hex_calls a _ hm W⟩
  have HCB : Aside0 (∀ W, Calls Tryz.prog 119 #[.string ⟨#[48, 49, 50, 51, 52, 53, 54, 55, 56, 57, 97, 98, 99, 100, 101, 102]⟩, .int .u8 (b.toNat : Int)] W fun e w' => e = .returned (.int .i64 n) ∧ Below W.heap.size W w') := ⟨fun W => hex_calls b _ hn W⟩
  clear hs hz0 hz1 hz2 hi hm hn
  go_enter Tryz.func105, Tryz.ntmps105
  have hb0 := heap_alloc_new w (.cells #[.int .u8 0] 5)
  have HB0 : Aside0 (Buf (w.alloc (.cells #[.int .u8 0] 5)) w.heap.size (.slice (some ⟨w.heap.size, 0, none⟩) 0 1) []) := ⟨buf_new (l := []) hb0 (Nat.le_refl _) (fun j _ => blk_frozen hb0 j) ⟨by simp, by unfold maxLen; decide⟩ (by simp) (by intro j u hu; simp [Lib.byteCells] at hu)⟩
  clear hb0
  go_wp2_with fail
  refine wp_loop_rounds 2 ?_
  rw [rounds_succ]
  have hd : decide ((0 : Int) + 1 < 2) = true := by decide
  go_wp2_with fail
  refine region_facts (ws := []) (G := fun _ w' => Aside0 (Below w.heap.size w w' ∧ Buf w' w.heap.size (.slice (some ⟨w.heap.size, 0, none⟩) 0 1) [])) (φs := [Fact.eq ?vu0, Fact.eq ?vu1, Fact.eq (.int .u8 (a.toNat : Int)), Fact.eq (.int .i64 m), Fact.eq ?vu4, Fact.eq ?vu5, Fact.eq (.int .i64 1), Fact.eq (.int .u8 (b.toNat : Int)), Fact.eq (.int .i64 n), Fact.eq ?vu9, Fact.eq ?vu10]) (n := 11) (m := 48) (by kernel_rfl) (by kernel_rfl) rfl rfl (by kernel_rfl) (fun _ _ _ h hb => ⟨below_then h.out.1 h.out.1.size hb, h.out.2.below hb⟩) (⟨below_drew (below_alloc (Below.refl _ _) _), HB0.out.below (below_drew (Below.refl _ _))⟩) ⟨?ou0, ?ou1, ?ou2, ?ou3, ?ou4, ?ou5, ?ou6, ?ou7, ?ou8, ?ou9, ?ou10, trivial⟩ ?finu
  case ou0 =>
    refine ask_val [.fix 0 _] rfl 19 rfl (.inl rfl) ⟨⟨by kernel_rfl, by conv => lhs; whnf⟩, trivial⟩ ?_
    dsimp only [Has, Fact.eq]
    intro e ρ w' hc hf hg hG h0
    go_simp
    with_reducible rfl
  case ou1 =>
    refine ask_val [.fix 5 _] rfl 20 rfl (.inl rfl) ⟨⟨by kernel_rfl, by conv => lhs; whnf⟩, trivial⟩ ?_
    dsimp only [Has, Fact.eq]
    intro e ρ w' hc hf hg hG h5
    go_simp
    with_reducible rfl
  case ou2 =>
    refine ask_val [.op 19 0 (Fact.eq _), .op 20 1 (Fact.eq _)] rfl 21 rfl (.inl rfl) ⟨⟨by kernel_rfl, rfl⟩, ⟨by kernel_rfl, rfl⟩, trivial⟩ ?_
    dsimp only [Has, Fact.eq]
    intro e ρ w' hc hf hg hG h19 h20
    go_simp
    exact HX0.out _
  case ou3 =>
    refine ask_call [.op 21 2 (Fact.eq _)] rfl 22 rfl (.inl rfl) ⟨⟨by kernel_rfl, rfl⟩, trivial⟩ 0 0 (by kernel_rfl) 119 Tryz.func119 (by kernel_rfl) rfl rfl ?_
    dsimp only [Has, Fact.eq]
    intro e ρ w' hp hq hc hf hg hG h21
    obtain rfl : e = 0 := by omega
    refine ⟨#[.string ⟨#[48, 49, 50, 51, 52, 53, 54, 55, 56, 57, 97, 98, 99, 100, 101, 102]⟩, .int .u8 (a.toNat : Int)], by simp only [List.map_toArray, List.map_cons, List.map_nil, hc, h21], eqF 0 (HCA.out _)⟩
  case ou4 =>
    refine ask_val [.fix 0 _] rfl 23 rfl (.inl rfl) ⟨⟨by kernel_rfl, by conv => lhs; whnf⟩, trivial⟩ ?_
    dsimp only [Has, Fact.eq]
    intro e ρ w' hc hf hg hG h0
    go_simp
    with_reducible rfl
  case ou5 =>
    refine ask_val [.fix 5 _] rfl 24 rfl (.inl rfl) ⟨⟨by kernel_rfl, by conv => lhs; whnf⟩, trivial⟩ ?_
    dsimp only [Has, Fact.eq]
    intro e ρ w' hc hf hg hG h5
    go_simp
    with_reducible rfl
  case ou6 =>
    refine ask_val [.op 24 5 (Fact.eq _)] rfl 25 rfl (.inl rfl) ⟨⟨by kernel_rfl, rfl⟩, trivial⟩ ?_
    dsimp only [Has, Fact.eq]
    intro e ρ w' hc hf hg hG h24
    go_simp
    rfl
  case ou7 =>
    refine ask_val [.op 23 4 (Fact.eq _), .op 25 6 (Fact.eq _)] rfl 26 rfl (.inl rfl) ⟨⟨by kernel_rfl, rfl⟩, ⟨by kernel_rfl, rfl⟩, trivial⟩ ?_
    dsimp only [Has, Fact.eq]
    intro e ρ w' hc hf hg hG h23 h25
    go_simp
    exact HX1.out _
  case ou8 =>
    refine ask_call [.op 26 7 (Fact.eq _)] rfl 27 rfl (.inl rfl) ⟨⟨by kernel_rfl, rfl⟩, trivial⟩ 0 0 (by kernel_rfl) 119 Tryz.func119 (by kernel_rfl) rfl rfl ?_
    dsimp only [Has, Fact.eq]
    intro e ρ w' hp hq hc hf hg hG h26
    obtain rfl : e = 0 := by omega
    refine ⟨#[.string ⟨#[48, 49, 50, 51, 52, 53, 54, 55, 56, 57, 97, 98, 99, 100, 101, 102]⟩, .int .u8 (b.toNat : Int)], by simp only [List.map_toArray, List.map_cons, List.map_nil, hc, h26], eqF 0 (HCB.out _)⟩
  case ou9 =>
    refine ask_val [.op 22 3 (Fact.eq _)] rfl 6 rfl (.inl rfl) ⟨⟨by kernel_rfl, rfl⟩, trivial⟩ ?_
    dsimp only [Has, Fact.eq]
    intro e ρ w' hc hf hg hG h22
    go_simp
    with_reducible rfl
  case ou10 =>
    refine ask_val [.op 27 8 (Fact.eq _)] rfl 7 rfl (.inl rfl) ⟨⟨by kernel_rfl, rfl⟩, trivial⟩ ?_
    dsimp only [Has, Fact.eq]
    intro e ρ w' hc hf hg hG h27
    go_simp
    with_reducible rfl
  case finu =>
    intro w' hG
    refine fin_eq (fin_eq (fin_eq (fin_eq (fin_eq (fin_eq (fin_eq (fin_eq (fin_eq (fin_eq (fin_eq (fin_nil (a' := ?_) ?_ ?_)))))))))))
    rotate_left
    · simp only [Act.put, List.setIfInBounds_toArray, List.set_cons_zero, List.set_cons_succ]
      rfl
    have HF := Aside0.mk hG.out.1
    clear hG
    by_cases hm0 : m < 0
    · have t0 : decide (m < 0) = true := decide_eq_true hm0
      go_wp2_with fail
      go_ret2
      exact ⟨rfl, HF.out⟩
    · have t0 : decide (m < 0) = false := decide_eq_false hm0
      have t1 : decide (n < 0) = true := decide_eq_true (hmn.resolve_left hm0)
      go_wp2_with fail
      go_ret2
      exact ⟨rfl, HF.out⟩
end Go.Proofs.YtkfjjmmpbfjhaaaGreatDoor.Tells
namespace Go.Proofs.YtkfjjmmpbfjhaaaGreatDoor.Build
open Go.RowKit Go.Shelf
set_option linter.unusedVariables false
def renR : Go.Shelf.Ren := ⟨fun | 168 => 106 | 240 => 92 | 242 => 121 | 276 => 109 | 278 => 136 | 166 => 75 | n => n, fun | 0 => 0 | 3 => 3 | 4 => 4 | 5 => 5 | 9 => 9 | 20 => 20 | 21 => 21 | 37 => 72 | 46 => 163 | 51 => 169 | 70 => 104 | 72 => 106 | 75 => 45 | 164 => 116 | 80 => 57 | n => n, fun | n => n⟩
theorem l168 : Go.Proofs.Lays.n168 Tryz.prog renR := {
  mixed := by kernel_rfl
  f168 := Tryz.func106.trans (congrArg some (by kernel_rfl))
  f240 := Tryz.func92.trans (congrArg some (by kernel_rfl))
  f242 := Tryz.func121.trans (congrArg some (by kernel_rfl))
  f276 := Tryz.func109.trans (congrArg some (by kernel_rfl))
  f278 := Tryz.func136.trans (congrArg some (by kernel_rfl))
  t0 := Tryz.underlying0
  a0 := Tryz.isAgg0
  z0 := Tryz.sizeOf0
  v0 := Tryz.zeroValue0
  t3 := Tryz.underlying3
  a3 := Tryz.isAgg3
  z3 := Tryz.sizeOf3
  v3 := Tryz.zeroValue3
  t4 := Tryz.underlying4
  a4 := Tryz.isAgg4
  z4 := Tryz.sizeOf4
  v4 := Tryz.zeroValue4
  t5 := Tryz.underlying5
  a5 := Tryz.isAgg5
  z5 := Tryz.sizeOf5
  v5 := Tryz.zeroValue5
  t9 := Tryz.underlying9
  a9 := Tryz.isAgg9
  z9 := Tryz.sizeOf9
  v9 := Tryz.zeroValue9
  t20 := Tryz.underlying20
  a20 := Tryz.isAgg20
  z20 := Tryz.sizeOf20
  v20 := Tryz.zeroValue20
  t21 := Tryz.underlying21
  a21 := Tryz.isAgg21
  z21 := Tryz.sizeOf21
  v21 := Tryz.zeroValue21
  t37 := Tryz.underlying72
  a37 := Tryz.isAgg72
  z37 := Tryz.sizeOf72
  v37 := Tryz.zeroValue72
  t46 := Tryz.underlying163
  a46 := Tryz.isAgg163
  z46 := Tryz.sizeOf163
  v46 := Tryz.zeroValue163
  t51 := Tryz.underlying169
  a51 := Tryz.isAgg169
  z51 := Tryz.sizeOf169
  v51 := Tryz.zeroValue169
  t70 := Tryz.underlying104
  a70 := Tryz.isAgg104
  z70 := Tryz.sizeOf104
  v70 := Tryz.zeroValue104
  t72 := Tryz.underlying106
  a72 := Tryz.isAgg106
  z72 := Tryz.sizeOf106
  v72 := Tryz.zeroValue106
  t75 := Tryz.underlying45
  a75 := Tryz.isAgg45
  z75 := Tryz.sizeOf45
  v75 := Tryz.zeroValue45
  t164 := Tryz.underlying116
  a164 := Tryz.isAgg116
  z164 := Tryz.sizeOf116
  v164 := Tryz.zeroValue116 }

theorem l166r : Go.Proofs.Lays.n166 Tryz.prog renR := {
  mixed := by kernel_rfl
  f166 := Tryz.func75.trans (congrArg some (by kernel_rfl))
  f240 := Tryz.func92.trans (congrArg some (by kernel_rfl))
  f276 := Tryz.func109.trans (congrArg some (by kernel_rfl))
  t0 := Tryz.underlying0
  a0 := Tryz.isAgg0
  z0 := Tryz.sizeOf0
  v0 := Tryz.zeroValue0
  t3 := Tryz.underlying3
  a3 := Tryz.isAgg3
  z3 := Tryz.sizeOf3
  v3 := Tryz.zeroValue3
  t4 := Tryz.underlying4
  a4 := Tryz.isAgg4
  z4 := Tryz.sizeOf4
  v4 := Tryz.zeroValue4
  t9 := Tryz.underlying9
  a9 := Tryz.isAgg9
  z9 := Tryz.sizeOf9
  v9 := Tryz.zeroValue9
  t20 := Tryz.underlying20
  a20 := Tryz.isAgg20
  z20 := Tryz.sizeOf20
  v20 := Tryz.zeroValue20
  t37 := Tryz.underlying72
  a37 := Tryz.isAgg72
  z37 := Tryz.sizeOf72
  v37 := Tryz.zeroValue72
  t70 := Tryz.underlying104
  a70 := Tryz.isAgg104
  z70 := Tryz.sizeOf104
  v70 := Tryz.zeroValue104
  t72 := Tryz.underlying106
  a72 := Tryz.isAgg106
  z72 := Tryz.sizeOf106
  v72 := Tryz.zeroValue106
  t75 := Tryz.underlying45
  a75 := Tryz.isAgg45
  z75 := Tryz.sizeOf45
  v75 := Tryz.zeroValue45
  t164 := Tryz.underlying116
  a164 := Tryz.isAgg116
  z164 := Tryz.sizeOf116
  v164 := Tryz.zeroValue116 }

theorem extraR : Builder.Extra Tryz.prog renR := {
  sizeBuilder := by kernel_rfl
  liesBuilder := by kernel_rfl
  t5 := Tryz.underlying5
  a5 := Tryz.isAgg5
  z5 := Tryz.sizeOf5
  v5 := Tryz.zeroValue5
  infoByte := by kernel_rfl
  cellsByte := by kernel_rfl
  sizeByte := by kernel_rfl
  neB5 := by decide }
theorem WriteRune_k (B b : Nat) (bs : List Value) (r : Int) (hr0 : -2147483648 ≤ r) (hr1 : r ≤ 2147483647) (w : World) (h : Lib.IsBuilderF 106 5 B b bs w) (hlen : bs.length + 4 ≤ 140737488355328) (hBw : B ≤ w.heap.size) :
    Calls Tryz.prog 106 #[.pointer (some ⟨b, 0, none⟩), .int .i32 r] w fun e w' => e = .returned (.tuple #[.int .i64 (Lib.runeCells r).length, .nilIface]) ∧ (Lib.BuilderAtF 106 5 B b (.pointer (some ⟨b, 0, none⟩)) (bs ++ Lib.runeCells r) w' ∧ Below B w w' ∧ Lib.OthersKept 5 (some b) w w') := Any.Builder_WriteRune_k l168 extraR B b bs r hr0 hr1 w h hlen hBw
theorem WriteString_k (B b : Nat) (bs : List Value) (s : ByteArray) (w : World) (h : Lib.IsBuilderF 106 5 B b bs w) (hlen : bs.length + s.size ≤ 140737488355328) (hBw : B ≤ w.heap.size) :
    Calls Tryz.prog 75 #[.pointer (some ⟨b, 0, none⟩), .string s] w fun e w' => e = .returned (.tuple #[.int .i64 s.size, .nilIface]) ∧ (Lib.BuilderAtF 106 5 B b (.pointer (some ⟨b, 0, none⟩)) (bs ++ Lib.strCells s) w' ∧ Below B w w' ∧ Lib.OthersKept 5 (some b) w w') := Any.Builder_WriteString_k l166r extraR B b bs s w h hlen hBw
end Go.Proofs.YtkfjjmmpbfjhaaaGreatDoor.Build
