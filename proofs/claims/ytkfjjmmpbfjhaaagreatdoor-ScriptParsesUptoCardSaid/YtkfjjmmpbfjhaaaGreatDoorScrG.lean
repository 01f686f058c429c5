/- The closures that read one word into its place (text$1, num$1), and their makers, walked. The makers of readers (text, num) and want.from, walked. script.names, walked: a list's words read. What want.from does with a list of readers that was just made. Conditions: those that each theorem states. -/
import Derived.Test.YtkfjjmmpbfjhaaaGreatDoorScrC
namespace Go.Proofs.YtkfjjmmpbfjhaaaGreatDoor.Tells
open Go.RowKit Go.Proofs.YtkfjjmmpbfjhaaaGreatDoor.Facts Go.Proofs.YtkfjjmmpbfjhaaaGreatDoor.PScriptActs Go.Proofs.YtkfjjmmpbfjhaaaGreatDoorW.PrintWords Go.Proofs.YtkfjjmmpbfjhaaaGreatDoorW.PrintLast Go.Proofs.YtkfjjmmpbfjhaaaGreatDoorW.PrintMore
attribute [local go_sem] max2_int min2_int max_two min_two max_three min_three max_four min_four
set_option linter.unusedVariables false
set_option linter.unusedSimpArgs false
theorem unwritten_at (s : ByteArray) (hs : s.size ≤ 1073741824) (W : World) : Calls Tryz.prog 89 #[.string s] W fun e w' => e = .returned (.tuple #[.string (unwT (bl s)), .bool (unwS (bl s)).isSome]) ∧ Below W.heap.size W w' := by
  have := unwritten_calls s hs W
  rw [unwV_eq] at this
  exact this
set_option maxHeartbeats 4000000 in
set_option maxRecDepth 100000 in
theorem text1_calls (s : ByteArray) (hs : s.size ≤ 1073741824) (bx g i : Nat) (cs : Array Value) (t : TypeId) (u : ByteArray) (w : World) (hbx : w.cell? ⟨bx, 0, none⟩ = some (.pointer (some ⟨g, i, none⟩))) (hg : w.heap[g]? = some (.cells cs t (0, 0))) (hi : cs[i]? = some (.string u)) :
    Calls Tryz.prog 88 #[.string s, .pointer (some ⟨bx, 0, none⟩)] w fun e w' => e = .returned (.bool (unwS (bl s)).isSome) ∧ Wrote w g (.cells (cs.setIfInBounds i (.string (unwT (bl s)))) t (0, 0)) w' := by
  have HU := Aside0.mk (fun W => unwritten_at s hs W)
  have HBX := Aside0.mk hbx
  have HG0 := Aside0.mk hg
  have HC0 := Aside0.mk hi
  clear hbx hg hi
  go_enter Tryz.func88, Tryz.ntmps88
  go_wp2_with fail
  refine region_facts (ws := [7]) (G := fun e w' => Aside0 ((e = 0 → Below w.heap.size w w') ∧ (e = 1 → Wrote w g (.cells (cs.setIfInBounds i (.string (unwT (bl s)))) t (0, 0)) w'))) (φs := [Fact.eq (.pointer (some ⟨g, i, none⟩)), Fact.eq ?vu1, Fact.eq (.tuple #[.string (unwT (bl s)), .bool (unwS (bl s)).isSome]), Fact.eq ?vu3, Fact.eq (.string (unwT (bl s))), Fact.eq (.bool (unwS (bl s)).isSome), Fact.eq (.pointer (some ⟨g, i, none⟩)), Fact.none, Fact.eq ?vu8]) (n := 9) (m := 12) (by kernel_rfl) (by kernel_rfl) rfl rfl (by kernel_rfl) (fun _ _ _ h hb => ⟨fun he => below_then (h.out.1 he) (h.out.1 he).size hb, fun he => (h.out.2 he).then hb⟩) (⟨fun _ => below_drew (Below.refl _ _), fun he => by cases he⟩) ⟨?ou0, ?ou1, ?ou2, ?ou3, ?ou4, ?ou5, ?ou6, ?ou7, ?ou8, trivial⟩ ?finu
  case ou0 =>
    refine ask_step [.fix 1 _] rfl 5 rfl (.inl rfl) ⟨⟨by kernel_rfl, by conv => lhs; whnf⟩, trivial⟩ 0 0 (by kernel_rfl) ?_
    dsimp only [Has, Fact.eq]
    intro e ρ w' hp hq hc hf hg hG h1
    obtain rfl : e = 0 := by omega
    have c0 : w'.cell? ⟨bx, 0, none⟩ = some (.pointer (some ⟨g, i, none⟩)) := pw_cell_below (hG.out.1 rfl) HBX.out
    refine ⟨_, w', ?_, rfl, Below.refl _ _⟩
    go_simp
    first | done | rfl
  case ou1 =>
    refine ask_val [.fix 0 _] rfl 6 rfl (.inl rfl) ⟨⟨by kernel_rfl, by conv => lhs; whnf⟩, trivial⟩ ?_
    dsimp only [Has, Fact.eq]
    intro e ρ w' hc hf hg hG h0
    go_simp
    with_reducible rfl
  case ou2 =>
    refine ask_call [.op 6 1 (Fact.eq _)] rfl 7 rfl (.inl rfl) ⟨⟨by kernel_rfl, rfl⟩, trivial⟩ 0 0 (by kernel_rfl) 89 Tryz.func89 (by kernel_rfl) rfl rfl ?_
    dsimp only [Has, Fact.eq]
    intro e ρ w' hp hq hc hf hg hG h6
    obtain rfl : e = 0 := by omega
    refine ⟨#[.string s], by simp only [List.map_toArray, List.map_cons, List.map_nil, h6], eqF 0 (HU.out _ )⟩
  case ou3 =>
    refine ask_val [.op 7 2 (Fact.eq _)] rfl 4 rfl (.inl rfl) ⟨⟨by kernel_rfl, rfl⟩, trivial⟩ ?_
    dsimp only [Has, Fact.eq]
    intro e ρ w' hc hf hg hG h7
    go_simp
    with_reducible rfl
  case ou4 =>
    refine ask_val [.op 4 3 (Fact.eq _)] rfl 8 rfl (.inl rfl) ⟨⟨by kernel_rfl, rfl⟩, trivial⟩ ?_
    dsimp only [Has, Fact.eq]
    intro e ρ w' hc hf hg hG h4
    go_simp
    first | done | rfl
  case ou5 =>
    refine ask_val [.op 4 3 (Fact.eq _)] rfl 9 rfl (.inl rfl) ⟨⟨by kernel_rfl, rfl⟩, trivial⟩ ?_
    dsimp only [Has, Fact.eq]
    intro e ρ w' hc hf hg hG h4
    go_simp
    first | done | rfl
  case ou6 =>
    refine ask_val [.op 5 0 (Fact.eq _)] rfl 10 rfl (.inl rfl) ⟨⟨by kernel_rfl, rfl⟩, trivial⟩ ?_
    dsimp only [Has, Fact.eq]
    intro e ρ w' hc hf hg hG h5
    go_simp
    first | done | rfl
  case ou7 =>
    refine ask_store [.op 10 6 (Fact.eq _), .op 8 4 (Fact.eq _)] rfl rfl (.inl rfl) ⟨⟨by kernel_rfl, rfl⟩, ⟨by kernel_rfl, rfl⟩, trivial⟩ 0 0 (by kernel_rfl) ?_
    dsimp only [Has, Fact.eq]
    intro e ρ w' hp hq hc hf hg hG h10 h8
    obtain rfl : e = 0 := by omega
    have hb := hG.out.1 rfl
    have hk : w'.heap[g]? = some (.cells cs t (0, 0)) := (hb.block g (blk_lt HG0.out)).trans HG0.out
    have c1 : w'.cell? ⟨g, i, none⟩ = some (.string u) := by rw [blk_cell hk]; exact HC0.out
    have f1 : w'.frozen? ⟨g, i, none⟩ = false := blk_frozen hk i
    refine ⟨w'.setCell ⟨g, i, none⟩ (.string (unwT (bl s))), ?_, trivial, ⟨fun he => (by cases he), fun _ => Wrote.set hb HG0.out _⟩, ⟨fun _ h => h, fun _ h => h, fun _ h => h, fun _ h => h, fun _ h => h, fun _ h => h, fun _ h => h, fun _ h => h, fun _ h => h, trivial⟩⟩
    go_simp
    first | done | rfl
  case ou8 =>
    refine ask_val [.op 9 5 (Fact.eq _)] rfl 3 rfl (.inl rfl) ⟨⟨by kernel_rfl, rfl⟩, trivial⟩ ?_
    dsimp only [Has, Fact.eq]
    intro e ρ w' hc hf hg hG h9
    go_simp
    with_reducible rfl
  case finu =>
    intro w' hG
    refine fin_eq (fin_eq (fin_eq (fin_eq (fin_eq (fin_eq (fin_eq (fin_fact (fun v7 hv7 => fin_eq (fin_nil (a' := ?_) ?_ ?_)))))))))
    rotate_left
    · simp only [Act.put, List.setIfInBounds_toArray, List.set_cons_zero, List.set_cons_succ]
      rfl
    have HF := Aside0.mk (hG.out.2 rfl)
    clear hG
    go_wp2_with fail
    go_ret
    exact ⟨rfl, HF.out⟩
set_option maxHeartbeats 4000000 in
set_option maxRecDepth 100000 in
theorem num1_calls (s : ByteArray) (hs : s.size ≤ 1073741824) (bx g i : Nat) (cs : Array Value) (t : TypeId) (u : Int) (w : World) (E : Env w) (hbx : w.cell? ⟨bx, 0, none⟩ = some (.pointer (some ⟨g, i, none⟩))) (hg : w.heap[g]? = some (.cells cs t (0, 0))) (hi : cs[i]? = some (.int .i64 u)) :
    Calls Tryz.prog 90 #[.string s, .pointer (some ⟨bx, 0, none⟩)] w fun e w' => e = .returned (.bool (numW (bl s)).isSome) ∧ Wrote w g (.cells (cs.setIfInBounds i (.int .i64 (numN (bl s)))) t (0, 0)) w' := by
  have HU := Aside0.mk (fun W E => number2_calls s hs W E)
  have HBX := Aside0.mk hbx
  have HG0 := Aside0.mk hg
  have HC0 := Aside0.mk hi
  have HE := Aside0.mk E
  clear hbx hg hi E
  go_enter Tryz.func90, Tryz.ntmps90
  go_wp2_with fail
  refine region_facts (ws := [7]) (G := fun e w' => Aside0 ((e = 0 → Below w.heap.size w w') ∧ (e = 1 → Wrote w g (.cells (cs.setIfInBounds i (.int .i64 (numN (bl s)))) t (0, 0)) w'))) (φs := [Fact.eq (.pointer (some ⟨g, i, none⟩)), Fact.eq ?vu1, Fact.eq (.tuple #[.int .i64 (numN (bl s)), .bool (numW (bl s)).isSome]), Fact.eq ?vu3, Fact.eq (.int .i64 (numN (bl s))), Fact.eq (.bool (numW (bl s)).isSome), Fact.eq (.pointer (some ⟨g, i, none⟩)), Fact.none, Fact.eq ?vu8]) (n := 9) (m := 12) (by kernel_rfl) (by kernel_rfl) rfl rfl (by kernel_rfl) (fun _ _ _ h hb => ⟨fun he => below_then (h.out.1 he) (h.out.1 he).size hb, fun he => (h.out.2 he).then hb⟩) (⟨fun _ => below_drew (Below.refl _ _), fun he => by cases he⟩) ⟨?ou0, ?ou1, ?ou2, ?ou3, ?ou4, ?ou5, ?ou6, ?ou7, ?ou8, trivial⟩ ?finu
  case ou0 =>
    refine ask_step [.fix 1 _] rfl 5 rfl (.inl rfl) ⟨⟨by kernel_rfl, by conv => lhs; whnf⟩, trivial⟩ 0 0 (by kernel_rfl) ?_
    dsimp only [Has, Fact.eq]
    intro e ρ w' hp hq hc hf hg hG h1
    obtain rfl : e = 0 := by omega
    have c0 : w'.cell? ⟨bx, 0, none⟩ = some (.pointer (some ⟨g, i, none⟩)) := pw_cell_below (hG.out.1 rfl) HBX.out
    refine ⟨_, w', ?_, rfl, Below.refl _ _⟩
    go_simp
    first | done | rfl
  case ou1 =>
    refine ask_val [.fix 0 _] rfl 6 rfl (.inl rfl) ⟨⟨by kernel_rfl, by conv => lhs; whnf⟩, trivial⟩ ?_
    dsimp only [Has, Fact.eq]
    intro e ρ w' hc hf hg hG h0
    go_simp
    with_reducible rfl
  case ou2 =>
    refine ask_call [.op 6 1 (Fact.eq _)] rfl 7 rfl (.inl rfl) ⟨⟨by kernel_rfl, rfl⟩, trivial⟩ 0 0 (by kernel_rfl) 91 Tryz.func91 (by kernel_rfl) rfl rfl ?_
    dsimp only [Has, Fact.eq]
    intro e ρ w' hp hq hc hf hg hG h6
    obtain rfl : e = 0 := by omega
    refine ⟨#[.string s], by simp only [List.map_toArray, List.map_cons, List.map_nil, h6], eqF 0 (HU.out _ (HE.out.below (hG.out.1 rfl)))⟩
  case ou3 =>
    refine ask_val [.op 7 2 (Fact.eq _)] rfl 4 rfl (.inl rfl) ⟨⟨by kernel_rfl, rfl⟩, trivial⟩ ?_
    dsimp only [Has, Fact.eq]
    intro e ρ w' hc hf hg hG h7
    go_simp
    with_reducible rfl
  case ou4 =>
    refine ask_val [.op 4 3 (Fact.eq _)] rfl 8 rfl (.inl rfl) ⟨⟨by kernel_rfl, rfl⟩, trivial⟩ ?_
    dsimp only [Has, Fact.eq]
    intro e ρ w' hc hf hg hG h4
    go_simp
    first | done | rfl
  case ou5 =>
    refine ask_val [.op 4 3 (Fact.eq _)] rfl 9 rfl (.inl rfl) ⟨⟨by kernel_rfl, rfl⟩, trivial⟩ ?_
    dsimp only [Has, Fact.eq]
    intro e ρ w' hc hf hg hG h4
    go_simp
    first | done | rfl
  case ou6 =>
    refine ask_val [.op 5 0 (Fact.eq _)] rfl 10 rfl (.inl rfl) ⟨⟨by kernel_rfl, rfl⟩, trivial⟩ ?_
    dsimp only [Has, Fact.eq]
    intro e ρ w' hc hf hg hG h5
    go_simp
    first | done | rfl
  case ou7 =>
    refine ask_store [.op 10 6 (Fact.eq _), .op 8 4 (Fact.eq _)] rfl rfl (.inl rfl) ⟨⟨by kernel_rfl, rfl⟩, ⟨by kernel_rfl, rfl⟩, trivial⟩ 0 0 (by kernel_rfl) ?_
    dsimp only [Has, Fact.eq]
    intro e ρ w' hp hq hc hf hg hG h10 h8
    obtain rfl : e = 0 := by omega
    have hb := hG.out.1 rfl
    have hk : w'.heap[g]? = some (.cells cs t (0, 0)) := (hb.block g (blk_lt HG0.out)).trans HG0.out
    have c1 : w'.cell? ⟨g, i, none⟩ = some (.int .i64 u) := by rw [blk_cell hk]; exact HC0.out
    have f1 : w'.frozen? ⟨g, i, none⟩ = false := blk_frozen hk i
    refine ⟨w'.setCell ⟨g, i, none⟩ (.int .i64 (numN (bl s))), ?_, trivial, ⟨fun he => (by cases he), fun _ => Wrote.set hb HG0.out _⟩, ⟨fun _ h => h, fun _ h => h, fun _ h => h, fun _ h => h, fun _ h => h, fun _ h => h, fun _ h => h, fun _ h => h, fun _ h => h, trivial⟩⟩
    go_simp
    first | done | rfl
  case ou8 =>
    refine ask_val [.op 9 5 (Fact.eq _)] rfl 3 rfl (.inl rfl) ⟨⟨by kernel_rfl, rfl⟩, trivial⟩ ?_
    dsimp only [Has, Fact.eq]
    intro e ρ w' hc hf hg hG h9
    go_simp
    with_reducible rfl
  case finu =>
    intro w' hG
    refine fin_eq (fin_eq (fin_eq (fin_eq (fin_eq (fin_eq (fin_eq (fin_fact (fun v7 hv7 => fin_eq (fin_nil (a' := ?_) ?_ ?_)))))))))
    rotate_left
    · simp only [Act.put, List.setIfInBounds_toArray, List.set_cons_zero, List.set_cons_succ]
      rfl
    have HF := Aside0.mk (hG.out.2 rfl)
    clear hG
    go_wp2_with fail
    go_ret
    exact ⟨rfl, HF.out⟩
end Go.Proofs.YtkfjjmmpbfjhaaaGreatDoor.Tells
namespace Go.Proofs.YtkfjjmmpbfjhaaaGreatDoor.Tells
open Go.RowKit Go.Proofs.YtkfjjmmpbfjhaaaGreatDoor.Facts Go.Proofs.YtkfjjmmpbfjhaaaGreatDoor.PScriptActs Go.Proofs.YtkfjjmmpbfjhaaaGreatDoorW.PrintWords Go.Proofs.YtkfjjmmpbfjhaaaGreatDoorW.PrintLast Go.Proofs.YtkfjjmmpbfjhaaaGreatDoorW.PrintMore
attribute [local go_sem] max2_int min2_int max_two min_two max_three min_three max_four min_four
set_option linter.unusedVariables false
set_option linter.unusedSimpArgs false
set_option maxHeartbeats 4000000 in
set_option maxRecDepth 100000 in
theorem text_calls (p : Addr) (w : World) : Calls Tryz.prog 53 #[.pointer (some p)] w fun e w' => e = .returned (.func (.func 88) #[] #[.pointer (some ⟨w.heap.size, 0, none⟩)]) ∧ w' = w.alloc (.cells #[.pointer (some p)] 99 (0, 0)) := by
  go_enter Tryz.func53, Tryz.ntmps53
  go_wp2_with fail
  go_ret
  exact ⟨rfl, rfl⟩
set_option maxHeartbeats 4000000 in
set_option maxRecDepth 100000 in
theorem num_calls (p : Addr) (w : World) : Calls Tryz.prog 63 #[.pointer (some p)] w fun e w' => e = .returned (.func (.func 90) #[] #[.pointer (some ⟨w.heap.size, 0, none⟩)]) ∧ w' = w.alloc (.cells #[.pointer (some p)] 103 (0, 0)) := by
  go_enter Tryz.func63, Tryz.ntmps63
  go_wp2_with fail
  go_ret
  exact ⟨rfl, rfl⟩
/-- a reader of one word: a text's or a number's, its box, the cell it writes -/
structure Slot where
  tx : Bool
  bx : Nat
  i : Nat
def Slot.f (s : Slot) : Value := .func (.func (if s.tx then 88 else 90)) #[] #[.pointer (some ⟨s.bx, 0, none⟩)]
def Slot.ok (s : Slot) (w : ByteArray) : Bool := if s.tx then (unwS (bl w)).isSome else (numW (bl w)).isSome
def Slot.put (s : Slot) (w : ByteArray) (cs : Array Value) : Array Value := cs.setIfInBounds s.i (if s.tx then .string (unwT (bl w)) else .int .i64 (numN (bl w)))
def puts : List Slot → List ByteArray → Array Value → Array Value
  | s :: ss, w :: ws, cs => puts ss ws (s.put w cs)
  | _, _, cs => cs
def oks : List Slot → List ByteArray → Bool
  | s :: ss, w :: ws => s.ok w && oks ss ws
  | _, _ => true
/-- the cells that the readers write hold what they should -/
def Typed (ty : Nat → Bool) (fs : List Slot) (cs : Array Value) : Prop := ∀ s ∈ fs, s.tx = ty s.i ∧ (if ty s.i then ∃ u, cs[s.i]? = some (.string u) else ∃ u, cs[s.i]? = some (.int .i64 u))
theorem Typed.put {ty : Nat → Bool} {fs : List Slot} {cs : Array Value} (h : Typed ty fs cs) (s : Slot) (hs : s ∈ fs) (w : ByteArray) : Typed ty fs (s.put w cs) := by
  intro r hr
  obtain ⟨h1, h2⟩ := h r hr
  obtain ⟨k1, k2⟩ := h s hs
  refine ⟨h1, ?_⟩
  unfold Slot.put
  by_cases e : s.i = r.i
  · have hlt : s.i < cs.size := by
      split at k2
      · obtain ⟨u, hu⟩ := k2; exact (Array.getElem?_eq_some_iff.1 hu).1
      · obtain ⟨u, hu⟩ := k2; exact (Array.getElem?_eq_some_iff.1 hu).1
    rw [← e, Array.getElem?_setIfInBounds_self_of_lt hlt, k1]
    by_cases ht : ty s.i = true
    · rw [if_pos ht, if_pos ht]; exact ⟨_, rfl⟩
    · rw [if_neg ht, if_neg ht]; exact ⟨_, rfl⟩
  · rw [Array.getElem?_setIfInBounds_ne e]
    exact h2
/-- the kind of a cell's value -/
def shp : Value → Nat
  | .int _ _ => 1
  | .string _ => 2
  | .slice _ _ _ => 3
  | _ => 0
/-- cells of the same kinds -/
def Alike (cs cs' : Array Value) : Prop := cs'.toList.map shp = cs.toList.map shp
theorem set_there {α : Type} {x : α} : ∀ {l : List α} {i : Nat}, l[i]? = some x → l.set i x = l
  | [], _, h => by cases h
  | a :: l, 0, h => by injection h with h; rw [h]; rfl
  | a :: l, i + 1, h => by
    show a :: l.set i x = a :: l
    rw [set_there (l := l) (i := i) h]
theorem Alike.refl (cs : Array Value) : Alike cs cs := rfl
theorem Alike.trans {a b c : Array Value} (h : Alike a b) (h' : Alike b c) : Alike a c := Eq.trans h' h
theorem Alike.put {cs cs1 : Array Value} (h : Alike cs cs1) {i : Nat} {u v : Value} (hu : cs1[i]? = some u) (hv : shp v = shp u) : Alike cs (cs1.setIfInBounds i v) := by
  unfold Alike at *
  rw [Array.toList_setIfInBounds, List.map_set, hv, ← h]
  refine set_there ?_
  rw [List.getElem?_map, Array.getElem?_toList, hu]
  rfl
theorem Typed.alike {ty : Nat → Bool} {fs : List Slot} {cs cs1 : Array Value} (h : Typed ty fs cs1) (s : Slot) (hs : s ∈ fs) (w : ByteArray) (ha : Alike cs cs1) : Alike cs (s.put w cs1) := by
  obtain ⟨h1, h2⟩ := h s hs
  unfold Slot.put
  rw [h1]
  by_cases ht : ty s.i = true
  · rw [if_pos ht] at h2 ⊢
    obtain ⟨u, hu⟩ := h2
    exact ha.put hu rfl
  · rw [if_neg ht] at h2 ⊢
    obtain ⟨u, hu⟩ := h2
    exact ha.put hu rfl
/-- what from wants of the world -/
structure From (w : World) (g : Nat) (t : TypeId) (cs : Array Value) (ty : Nat → Bool) (r : Nat) (fs : List Slot) (A : Option Addr) (ws : List ByteArray) : Prop where
  blk : w.heap[g]? = some (.cells cs t (0, 0))
  typed : Typed ty fs cs
  row : ∀ j s, fs[j]? = some s → w.cell? ⟨r, j, none⟩ = some s.f
  rg : r ≠ g
  box : ∀ s ∈ fs, w.cell? ⟨s.bx, 0, none⟩ = some (.pointer (some ⟨g, s.i, none⟩)) ∧ s.bx ≠ g
  words : Kd.C Kd.string w A ws.length ws
  keep : ∀ W o, Wrote w g o W → Kd.C Kd.string W A ws.length ws
  env : ∀ W o, Wrote w g o W → Env W
theorem Wrote.cell {w w' : World} {g : Nat} {o : Obj} (h : Wrote w g o w') {b j : Nat} {v : Value} (hc : w.cell? ⟨b, j, none⟩ = some v) (hn : b ≠ g) : w'.cell? ⟨b, j, none⟩ = some v := by
  have hlt : b < w.heap.size := by
    by_cases hh : b < w.heap.size
    · exact hh
    · have hnn : w.heap[b]? = none := Array.getElem?_eq_none (by omega)
      simp [World.cell?, hnn] at hc
  rw [(cell_heap (h.block b hlt hn) j).1]
  exact hc
set_option maxHeartbeats 4000000 in
set_option maxRecDepth 100000 in
theorem from_calls' (w : World) (g : Nat) (t : TypeId) (cs : Array Value) (ty : Nat → Bool) (r : Nat) (fs : List Slot) (A : Option Addr) (ws : List ByteArray) (c : Nat) (hF : From w g t cs ty r fs A ws) (hl : fs.length = ws.length) (hws : ∀ s ∈ ws, s.size ≤ 1073741824) (hn : fs.length ≤ 1073741824) (hc : ws.length ≤ c) (k : Int) (hk : Aside0 ((oks fs ws = true → k = 0) ∧ (oks fs ws = false → k = 244))) :
    Calls Tryz.prog 54 #[.slice (some ⟨r, 0, none⟩) fs.length fs.length, .slice A ws.length c] w fun e w' => e = .returned (.int .i64 k) ∧ ∃ cs', Wrote w g (.cells cs' t (0, 0)) w' ∧ (oks fs ws = true → cs' = puts fs ws cs) ∧ Alike cs cs' := by
  have HF := Aside0.mk hF
  have HL := Aside0.mk hl
  have HWS := Aside0.mk hws
  have hb0 : ((ws.length : Int) != (fs.length : Int)) = false := by rw [hl]; simp
  clear hF hl hws
  go_enter Tryz.func54, Tryz.ntmps54
  go_wp2_with fail
  have HR0 : Aside0 (Wrote w g (.cells cs t (0, 0)) w ∧ Typed ty fs cs ∧ oks fs ws = oks (fs.drop 0) (ws.drop 0) ∧ puts fs ws cs = puts (fs.drop 0) (ws.drop 0) cs ∧ Alike cs cs) := ⟨Wrote.of (Below.refl _ _) HF.out.blk, HF.out.typed, rfl, rfl, rfl⟩
  go_loopw [14] (fun v14 wr => ∃ (i : Nat) (cs1 : Array Value), v14 = .int .i64 (i : Int) ∧ i ≤ ws.length ∧ Aside0 (Wrote w g (.cells cs1 t (0, 0)) wr ∧ Typed ty fs cs1 ∧ oks fs ws = oks (fs.drop i) (ws.drop i) ∧ puts fs ws cs = puts (fs.drop i) (ws.drop i) cs1 ∧ Alike cs cs1)) (fun v14 _ => ws.length - (intOf v14).toNat)
  case atStart => exact ⟨0, cs, rfl, by omega, HR0⟩
  case round =>
    obtain ⟨i, cs1, rfl, hi, HR⟩ := hrel
    clear HR0
    by_cases hlt : i < ws.length
    · have b1 : decide ((i : Int) < (ws.length : Int)) = true := decide_eq_true (by omega)
      have hlf : i < fs.length := by rw [HL.out]; exact hlt
      have hif : (i : Int) < (fs.length : Int) := by omega
      have hiw : (i : Int) < (ws.length : Int) := by omega
      have hwi : wrap64 ((i : Int) + 1) = (i : Int) + 1 := by unfold wrap64; omega
      have HMS : Aside0 (ws.length - (intOf (Value.int IntKind.i64 ((i : Int) + 1))).toNat < ws.length - (intOf (Value.int IntKind.i64 (i : Int))).toNat) := ⟨by simp only [intOf]; omega⟩
      obtain ⟨s, hs⟩ : ∃ s, fs[i]? = some s := ⟨_, List.getElem?_eq_getElem hlf⟩
      obtain ⟨x, hx⟩ : ∃ x, ws[i]? = some x := ⟨_, List.getElem?_eq_getElem hlt⟩
      have hsm := List.mem_of_getElem? hs
      have hxz := HWS.out x (List.mem_of_getElem? hx)
      obtain ⟨ad, rfl, hcell⟩ := Kd.at_string (HF.out.keep wr _ HR.out.1) (i : Int) (by omega) hiw
      have hrd : rdOf ByteArray.empty ws (i : Int) = x := by unfold rdOf; rw [Int.toNat_natCast, List.getD_eq_getElem?_getD, hx]; rfl
      rw [Int.toNat_natCast, hrd] at hcell
      have hfn := HR.out.1.cell (HF.out.row i s hs) HF.out.rg
      have hbx := HR.out.1.cell (HF.out.box s hsm).1 (HF.out.box s hsm).2
      have hE := HF.out.env wr _ HR.out.1
      obtain ⟨hty1, hty2⟩ := HR.out.2.1 s hsm
      have hdf : fs.drop i = s :: fs.drop (i + 1) := by rw [List.drop_eq_getElem_cons hlf]; congr 1; exact (List.getElem?_eq_some_iff.1 hs).2
      have hdw : ws.drop i = x :: ws.drop (i + 1) := by rw [List.drop_eq_getElem_cons hlt]; congr 1; exact (List.getElem?_eq_some_iff.1 hx).2
      have HO : Aside0 (oks fs ws = (s.ok x && oks (fs.drop (i + 1)) (ws.drop (i + 1))) ∧ puts fs ws cs = puts (fs.drop (i + 1)) (ws.drop (i + 1)) (s.put x cs1) ∧ Typed ty fs (s.put x cs1) ∧ Alike cs (s.put x cs1)) := ⟨by rw [HR.out.2.2.1, hdf, hdw]; rfl, by rw [HR.out.2.2.2.1, hdf, hdw]; rfl, HR.out.2.1.put s hsm x, HR.out.2.1.alike s hsm x HR.out.2.2.2.2⟩
      have hblk := HR.out.1.at_
      clear hdf hdw hrd hs hx hsm
      cases htx : s.tx with
      | true =>
        rw [← hty1, htx, if_pos rfl] at hty2
        obtain ⟨u, hu⟩ := hty2
        have hcall := text1_calls x hxz s.bx g s.i cs1 t u wr hbx hblk hu
        have HOK : Aside0 (s.ok x = (unwS (bl x)).isSome ∧ s.put x cs1 = cs1.setIfInBounds s.i (.string (unwT (bl x)))) := ⟨by unfold Slot.ok; rw [htx, if_pos rfl], by unfold Slot.put; rw [htx, if_pos rfl]⟩
        have hf : s.f = .func (.func 88) #[] #[.pointer (some ⟨s.bx, 0, none⟩)] := by unfold Slot.f; rw [htx, if_pos rfl]
        rw [hf] at hfn
        obtain ⟨b, hb⟩ : ∃ b, (unwS (bl x)).isSome = b := ⟨_, rfl⟩
        rw [hb] at hcall HOK
        clear hf hu hblk hbx htx hty1 hb
        cases b with
        | true =>
          go_wp2_with (go_at_call 88; refine hcall.mono ?_; rintro e w1 ⟨rfl, hw1⟩; have HW1 := Aside0.mk (HR.out.1.again hw1); clear hw1)
          go_roundw
          case rel => exact ⟨i + 1, s.put x cs1, rfl, hlt, ⟨by rw [HOK.out.2]; exact HW1.out, HO.out.2.2.1, by rw [HO.out.1, HOK.out.1, Bool.true_and], HO.out.2.1, HO.out.2.2.2⟩⟩
          case measure => exact HMS.out
        | false =>
          go_wp2_with (go_at_call 88; refine hcall.mono ?_; rintro e w1 ⟨rfl, hw1⟩; have HW1 := Aside0.mk (HR.out.1.again hw1); clear hw1)
          go_ret
          have ho : oks fs ws = false := by rw [HO.out.1, HOK.out.1, Bool.false_and]
          exact ⟨by rw [hk.out.2 ho]; rfl, _, HW1.out, fun h => (by rw [ho] at h; cases h), by have := HO.out.2.2.2; rw [HOK.out.2] at this; exact this⟩
      | false =>
        rw [← hty1, htx, if_neg (by simp)] at hty2
        obtain ⟨u, hu⟩ := hty2
        have hcall := num1_calls x hxz s.bx g s.i cs1 t u wr hE hbx hblk hu
        have HOK : Aside0 (s.ok x = (numW (bl x)).isSome ∧ s.put x cs1 = cs1.setIfInBounds s.i (.int .i64 (numN (bl x)))) := ⟨by unfold Slot.ok; rw [htx, if_neg (by simp)], by unfold Slot.put; rw [htx, if_neg (by simp)]⟩
        have hf : s.f = .func (.func 90) #[] #[.pointer (some ⟨s.bx, 0, none⟩)] := by unfold Slot.f; rw [htx, if_neg (by simp)]
        rw [hf] at hfn
        obtain ⟨b, hb⟩ : ∃ b, (numW (bl x)).isSome = b := ⟨_, rfl⟩
        rw [hb] at hcall HOK
        clear hf hu hblk hbx htx hty1 hb
        cases b with
        | true =>
          go_wp2_with (go_at_call 90; refine hcall.mono ?_; rintro e w1 ⟨rfl, hw1⟩; have HW1 := Aside0.mk (HR.out.1.again hw1); clear hw1)
          go_roundw
          case rel => exact ⟨i + 1, s.put x cs1, rfl, hlt, ⟨by rw [HOK.out.2]; exact HW1.out, HO.out.2.2.1, by rw [HO.out.1, HOK.out.1, Bool.true_and], HO.out.2.1, HO.out.2.2.2⟩⟩
          case measure => exact HMS.out
        | false =>
          go_wp2_with (go_at_call 90; refine hcall.mono ?_; rintro e w1 ⟨rfl, hw1⟩; have HW1 := Aside0.mk (HR.out.1.again hw1); clear hw1)
          go_ret
          have ho : oks fs ws = false := by rw [HO.out.1, HOK.out.1, Bool.false_and]
          exact ⟨by rw [hk.out.2 ho]; rfl, _, HW1.out, fun h => (by rw [ho] at h; cases h), by have := HO.out.2.2.2; rw [HOK.out.2] at this; exact this⟩
    · obtain rfl : i = ws.length := by omega
      have b1 : decide ((ws.length : Int) < (ws.length : Int)) = false := decide_eq_false (by omega)
      have HD : Aside0 (oks fs ws = true ∧ puts fs ws cs = cs1) := ⟨by
        have h1 : fs.drop ws.length = [] := List.drop_of_length_le (by rw [HL.out]; exact Nat.le_refl _)
        rw [HR.out.2.2.1, HR.out.2.2.2.1, h1]
        exact ⟨rfl, rfl⟩⟩
      go_wp2_with fail
      go_ret
      exact ⟨by rw [hk.out.1 HD.out.1]; rfl, _, HR.out.1, fun _ => HD.out.2.symm, HR.out.2.2.2.2⟩
set_option maxHeartbeats 4000000 in
set_option maxRecDepth 100000 in
theorem from_words (R A : Option Addr) (n m c d : Nat) (h : n ≠ m) (w : World) : Calls Tryz.prog 54 #[.slice R n d, .slice A m c] w fun e w' => e = .returned (.int .i64 243) ∧ w' = w := by
  have hb0 : ((m : Int) != (n : Int)) = true := by
    have h2 : ¬ ((m : Int) = (n : Int)) := by omega
    simpa using h2
  go_enter Tryz.func54, Tryz.ntmps54
  go_wp2_with fail
  go_ret
  exact ⟨rfl, rfl⟩
end Go.Proofs.YtkfjjmmpbfjhaaaGreatDoor.Tells
namespace Go.Proofs.YtkfjjmmpbfjhaaaGreatDoor.Tells
open Go.RowKit Go.Proofs.YtkfjjmmpbfjhaaaGreatDoor.Facts Go.Proofs.YtkfjjmmpbfjhaaaGreatDoor.PScriptActs Go.Proofs.YtkfjjmmpbfjhaaaGreatDoorW.PrintWords Go.Proofs.YtkfjjmmpbfjhaaaGreatDoorW.PrintLast Go.Proofs.YtkfjjmmpbfjhaaaGreatDoorW.PrintMore
attribute [local go_sem] max2_int min2_int max_two min_two max_three min_three max_four min_four
set_option linter.unusedVariables false
set_option linter.unusedSimpArgs false
theorem Wrote.more {w w1 w2 : World} {g : Nat} {o : Obj} (h : Wrote w g o w1) (hb : Below w.heap.size w1 w2) (hg : g < w.heap.size) : Wrote w g o w2 :=
  ⟨hb.os.trans h.os, hb.tape.trans h.tape, hb.output.trans h.output, Nat.le_trans h.size hb.size, fun k hk hn => (hb.block k hk).trans (h.block k hk hn), (hb.block g hg).trans h.at_⟩
theorem Wrote.put {w w1 : World} {g : Nat} {cs : Array Value} {t : TypeId} (h : Wrote w g (.cells cs t (0, 0)) w1) (i : Nat) (v : Value) : Wrote w g (.cells (cs.setIfInBounds i v) t (0, 0)) (w1.setCell ⟨g, i, none⟩ v) :=
  ⟨h.os, h.tape, h.output, by have := h.size; simpa [World.setCell] using this, fun k hk hn => (Below.heap_setCell w1 _ v k (show k ≠ g from hn)).trans (h.block k hk hn), blk_set h.at_ i v⟩
theorem set_twice (cs : Array Value) (i : Nat) (u v : Value) : (cs.setIfInBounds i u).setIfInBounds i v = cs.setIfInBounds i v := by
  apply Array.ext_getElem?
  intro j
  by_cases hj : i = j
  · subst hj
    rw [Array.getElem?_setIfInBounds, Array.size_setIfInBounds, Array.getElem?_setIfInBounds]
    by_cases hi : i < cs.size
    · simp [hi]
    · simp [hi]
  · rw [Array.getElem?_setIfInBounds_ne hj, Array.getElem?_setIfInBounds_ne hj, Array.getElem?_setIfInBounds_ne hj]
theorem R_off {α : Type} {d : Kd α} {e : Nat} {w w1 : World} {base : Nat} {v : Value} {xs : List α} (h : d.R e w base (fun _ => True) v xs) (hm : ∀ k, base ≤ k → w1.heap[k]? = w.heap[k]?) : d.R e w1 base (fun _ => True) v xs :=
  Kd.R_mono (Kd.R_move (Kd.R_bound h) (fun k hk => hm k hk.2.1)) (fun _ _ => trivial)
/-- the names that a list's words say -/
def unwL (ws : List ByteArray) : List ByteArray := ws.map fun s => unwT (bl s)
def okL (ws : List ByteArray) : Bool := ws.all fun s => (unwS (bl s)).isSome
set_option maxHeartbeats 4000000 in
set_option maxRecDepth 100000 in
theorem names_calls (w : World) (g : Nat) (cs : Array Value) (A : Option Addr) (ws : List ByteArray) (c : Nat) (hblk : w.heap[g]? = some (.cells cs 31 (0, 0))) (hc3 : cs[3]? = some (.slice none 0 0)) (hA : Kd.C Kd.string w A ws.length ws) (hkeep : ∀ W o, Wrote w g o W → Kd.C Kd.string W A ws.length ws) (hws : ∀ s ∈ ws, s.size ≤ 1073741824) (hn : ws.length ≤ 1073741824) (hc : ws.length ≤ c) (k : Int) (hk : Aside0 ((okL ws = true → k = 0) ∧ (okL ws = false → k = 244))) :
    Calls Tryz.prog 86 #[.pointer (some ⟨g, 0, none⟩), .slice A ws.length c] w fun e w' => e = .returned (.int .i64 k) ∧ ∃ v, Wrote w g (.cells (cs.setIfInBounds 3 v) 31 (0, 0)) w' ∧ shp v = 3 ∧ (okL ws = true → Kd.R Kd.string 9 w' w.heap.size (fun _ => True) v (unwL ws)) := by
  have HKP := Aside0.mk hkeep
  have HWS := Aside0.mk hws
  have hgl : g < w.heap.size := blk_lt hblk
  have h3 : 3 < cs.size := (Array.getElem?_eq_some_iff.1 hc3).1
  have HR0 : Aside0 (Wrote w g (.cells (cs.setIfInBounds 3 (.slice none 0 0)) 31 (0, 0)) w ∧ Kd.R Kd.string 9 w w.heap.size (fun _ => True) (.slice none 0 0) (unwL (ws.take 0)) ∧ okL (ws.take 0) = true) := ⟨by
    have e : cs.setIfInBounds 3 (.slice none 0 0) = cs := by
      apply Array.ext_getElem?
      intro j
      by_cases hj : 3 = j
      · subst hj; rw [Array.getElem?_setIfInBounds_self_of_lt h3, hc3]
      · rw [Array.getElem?_setIfInBounds_ne hj]
    rw [e]
    exact ⟨Wrote.of (Below.refl _ _) hblk, Kd.R_nil _ _ _ _ _, rfl⟩⟩
  clear hkeep hws hblk hc3 hA
  go_enter Tryz.func86, Tryz.ntmps86
  go_wp2_with fail
  go_loopw [11] (fun v11 wr => ∃ (i : Nat) (v : Value), v11 = .int .i64 (i : Int) ∧ i ≤ ws.length ∧ Aside0 (Wrote w g (.cells (cs.setIfInBounds 3 v) 31 (0, 0)) wr ∧ Kd.R Kd.string 9 wr w.heap.size (fun _ => True) v (unwL (ws.take i)) ∧ okL (ws.take i) = true)) (fun v11 _ => ws.length - (intOf v11).toNat)
  case atStart => exact ⟨0, _, rfl, by omega, HR0⟩
  case round =>
    obtain ⟨i, v, rfl, hi, HR⟩ := hrel
    clear HR0
    by_cases hlt : i < ws.length
    · have b1 : decide ((i : Int) < (ws.length : Int)) = true := decide_eq_true (by omega)
      have hiw : (i : Int) < (ws.length : Int) := by omega
      have hwi : wrap64 ((i : Int) + 1) = (i : Int) + 1 := by unfold wrap64; omega
      have HMS : Aside0 (ws.length - (intOf (Value.int IntKind.i64 ((i : Int) + 1))).toNat < ws.length - (intOf (Value.int IntKind.i64 (i : Int))).toNat) := ⟨by simp only [intOf]; omega⟩
      obtain ⟨x, hx⟩ : ∃ x, ws[i]? = some x := ⟨_, List.getElem?_eq_getElem hlt⟩
      have hxz := HWS.out x (List.mem_of_getElem? hx)
      obtain ⟨ad, rfl, hcell⟩ := Kd.at_string (HKP.out wr _ HR.out.1) (i : Int) (by omega) hiw
      have hrd : rdOf ByteArray.empty ws (i : Int) = x := by unfold rdOf; rw [Int.toNat_natCast, List.getD_eq_getElem?_getD, hx]; rfl
      rw [Int.toNat_natCast, hrd] at hcell
      obtain ⟨D, hD⟩ : ∃ D, D = unwL (ws.take i) := ⟨_, rfl⟩
      have hlen : D.length = i := by rw [hD]; unfold unwL; rw [List.length_map, List.length_take]; omega
      rw [← hD] at HR
      obtain ⟨A3, c3, rfl⟩ := Kd.R_slice HR.out.2.1
      have hu := unwritten_at x hxz wr
      have HST : Aside0 (unwL (ws.take (i + 1)) = D ++ [unwT (bl x)] ∧ okL (ws.take (i + 1)) = (unwS (bl x)).isSome) := ⟨by
        have hok := HR.out.2.2
        unfold unwL okL at *
        rw [List.take_add_one, hx, hD, List.all_append, hok]
        simp⟩
      have HFL : Aside0 ((unwS (bl x)).isSome = false → okL ws = false) := ⟨fun h => by
        cases hq : okL ws with
        | false => rfl
        | true =>
          have := List.all_eq_true.1 hq x (List.mem_of_getElem? hx)
          rw [h] at this; cases this⟩
      obtain ⟨b, hb⟩ : ∃ b, (unwS (bl x)).isSome = b := ⟨_, rfl⟩
      rw [hb] at hu HST HFL
      have hd1 : D.length ≤ 1073741824 := by omega
      clear hrd hx hD hlen hb
      cases b with
      | false =>
        go_wp2_with (go_at_call 89; refine hu.mono ?_; rintro e w1 ⟨rfl, hb1⟩; have HW1 := Aside0.mk (HR.out.1.then hb1); clear hb1)
        go_ret
        have ho := HFL.out (by trivial)
        exact ⟨by rw [hk.out.2 ho]; rfl, _, HW1.out, rfl, fun h => by rw [ho] at h; cases h⟩
      | true =>
        have HG3 : Aside0 (∀ W, Wrote w g (.cells (cs.setIfInBounds 3 (.slice A3 D.length c3)) 31 (0, 0)) W → W.cell? ⟨g, 3, none⟩ = some (.slice A3 D.length c3) ∧ ∀ o, W.frozen? ⟨g, o, none⟩ = false) := ⟨fun W hW => ⟨by
          rw [blk_cell hW.at_]
          exact Array.getElem?_setIfInBounds_self_of_lt h3, fun o => blk_frozen hW.at_ o⟩⟩
        go_wp2_with (first
          | (go_at_call 89; refine hu.mono ?_; rintro e w1 ⟨rfl, hb1⟩; have HW1 := Aside0.mk (And.intro (HR.out.1.then hb1) (Kd.R_below HR.out.2.1 hb1)); obtain ⟨n0, f0⟩ := HG3.out w1 HW1.out.1; have hbs := HW1.out.1.size; clear hb1)
          | (at_builtin; refine Kd.R_append Kd.string (w0 := w1) w.heap.size rfl (.tmp 26) (.tmp 28) 29 9 (.string ⟨#[]⟩) 16 rfl Tryz.underlying29 info9 rfl (by decide) (by omega) (.slice A3 D.length c3) D (unwT (bl x)) [.string (unwT (bl x))] (fun _ => True) (fun _ => False) rfl rfl rfl (fun _ hk => hk.elim) (fun _ _ => trivial) (by exact HW1.out.2) (by exact Below.refl _ _) (by exact hbs) (by omega) ?_; intro v2 w2 hown hb2 hgw hat; obtain ⟨A4, c4, rfl⟩ := Kd.R_slice hown; have HW2 := Aside0.mk (And.intro (HW1.out.1.more hb2 hgl) hown); obtain ⟨n2, f2⟩ := HG3.out w2 HW2.out.1; clear hown hb2 hgw hat))
        go_roundw
        case rel => exact ⟨i + 1, _, rfl, hlt, ⟨by have := HW2.out.1.put 3 (.slice A4 (D ++ [unwT (bl x)]).length c4); rw [set_twice, List.length_append, List.length_singleton] at this; exact this, by rw [HST.out.1]; exact R_off (by have := HW2.out.2; rw [List.length_append, List.length_singleton] at this; exact this) (fun k hk => Below.heap_setCell w2 _ _ k (show k ≠ g by omega)), HST.out.2⟩⟩
        case measure => exact HMS.out
    · obtain rfl : i = ws.length := by omega
      have b1 : decide ((ws.length : Int) < (ws.length : Int)) = false := decide_eq_false (by omega)
      have HD : Aside0 (okL ws = true ∧ Kd.R Kd.string 9 wr w.heap.size (fun _ => True) v (unwL ws)) := ⟨by
        have := HR.out.2
        rw [List.take_length] at this
        exact ⟨this.2, this.1⟩⟩
      go_wp2_with fail
      go_ret
      obtain ⟨A9, c9, rfl⟩ := Kd.R_slice HD.out.2
      exact ⟨by rw [hk.out.1 HD.out.1]; rfl, _, HR.out.1, rfl, fun _ => HD.out.2⟩
end Go.Proofs.YtkfjjmmpbfjhaaaGreatDoor.Tells
namespace Go.Proofs.YtkfjjmmpbfjhaaaGreatDoor.Tells
open Go.RowKit Go.Proofs.YtkfjjmmpbfjhaaaGreatDoor.Facts Go.Proofs.YtkfjjmmpbfjhaaaGreatDoor.PScriptActs Go.Proofs.YtkfjjmmpbfjhaaaGreatDoorW.PrintWords Go.Proofs.YtkfjjmmpbfjhaaaGreatDoorW.PrintLast Go.Proofs.YtkfjjmmpbfjhaaaGreatDoorW.PrintMore
attribute [local go_sem] max2_int min2_int max_two min_two max_three min_three max_four min_four
set_option linter.unusedVariables false
set_option linter.unusedSimpArgs false
abbrev Place := Bool × Nat
def Slot.pl (s : Slot) : Place := (s.tx, s.i)
def okP (p : Place) (w : ByteArray) : Bool := if p.1 then (unwS (bl w)).isSome else (numW (bl w)).isSome
def putP (p : Place) (w : ByteArray) (cs : Array Value) : Array Value := cs.setIfInBounds p.2 (if p.1 then .string (unwT (bl w)) else .int .i64 (numN (bl w)))
def putsP : List Place → List ByteArray → Array Value → Array Value
  | s :: ss, w :: ws, cs => putsP ss ws (putP s w cs)
  | _, _, cs => cs
def oksP : List Place → List ByteArray → Bool
  | s :: ss, w :: ws => okP s w && oksP ss ws
  | _, _ => true
theorem puts_pl : ∀ (fs : List Slot) (ws : List ByteArray) (cs : Array Value), puts fs ws cs = putsP (fs.map Slot.pl) ws cs
  | [], ws, cs => by cases ws <;> rfl
  | s :: ss, [], cs => rfl
  | s :: ss, w :: ws, cs => puts_pl ss ws (s.put w cs)
theorem oks_pl : ∀ (fs : List Slot) (ws : List ByteArray), oks fs ws = oksP (fs.map Slot.pl) ws
  | [], ws => by cases ws <;> rfl
  | s :: ss, [] => rfl
  | s :: ss, w :: ws => by
    show (s.ok w && oks ss ws) = (okP s.pl w && oksP (ss.map Slot.pl) ws)
    rw [oks_pl ss ws]; rfl
/-- a reader, made for the cell i of block g -/
def isSlot (g : Nat) (p : Place) (x : Value) (w : World) : Prop := ∃ s : Slot, s.pl = p ∧ x = s.f ∧ w.cell? ⟨s.bx, 0, none⟩ = some (.pointer (some ⟨g, s.i, none⟩)) ∧ s.bx ≠ g
theorem isSlot.below {g : Nat} {p : Place} {x : Value} {w w' : World} (h : isSlot g p x w) (hb : Below w.heap.size w w') : isSlot g p x w' := by
  obtain ⟨s, h1, h2, h3, h4⟩ := h
  exact ⟨s, h1, h2, pw_cell_below hb h3, h4⟩
/-- a list of readers -/
def isWant (g : Nat) (L : List Place) (x : Value) (w : World) : Prop := ∃ (r : Nat) (fs : List Slot), x = .slice (some ⟨r, 0, none⟩) fs.length fs.length ∧ fs.map Slot.pl = L ∧ r ≠ g ∧ (∀ j s, fs[j]? = some s → w.cell? ⟨r, j, none⟩ = some s.f) ∧ ∀ s ∈ fs, w.cell? ⟨s.bx, 0, none⟩ = some (.pointer (some ⟨g, s.i, none⟩)) ∧ s.bx ≠ g
theorem isWant.below {g : Nat} {L : List Place} {x : Value} {w w' : World} (h : isWant g L x w) (hb : Below w.heap.size w w') : isWant g L x w' := by
  obtain ⟨r, fs, h1, h2, h3, h4, h5⟩ := h
  exact ⟨r, fs, h1, h2, h3, fun j s hs => pw_cell_below hb (h4 j s hs), fun s hs => ⟨pw_cell_below hb (h5 s hs).1, (h5 s hs).2⟩⟩
theorem want1 {g : Nat} {p : Place} {x : Value} {w : World} (h : isSlot g p x w) (hg : g < w.heap.size) : isWant g [p] (.slice (some ⟨w.heap.size, 0, none⟩) 1 1) (w.alloc (.cells #[x] 52)) := by
  obtain ⟨s, h1, rfl, h3, h4⟩ := h
  refine ⟨w.heap.size, [s], rfl, by rw [List.map_cons, h1]; rfl, by omega, fun j r hr => ?_, fun r hr => ?_⟩
  · have hk := blk_new w (.cells #[s.f] 52)
    rw [blk_cell hk]
    match j, hr with
    | 0, hr => simp at hr; subst hr; rfl
    | j + 1, hr => simp at hr
  · obtain rfl := List.mem_singleton.1 hr
    exact ⟨pw_cell_below ((Below.refl _ _).alloc (Nat.le_refl _) _) h3, h4⟩
theorem want2 {g : Nat} {p q : Place} {x y : Value} {w : World} (h : isSlot g p x w) (h' : isSlot g q y w) (hg : g < w.heap.size) : isWant g [p, q] (.slice (some ⟨w.heap.size, 0, none⟩) 2 2) (w.alloc (.cells #[x, y] 52)) := by
  obtain ⟨s, h1, rfl, h3, h4⟩ := h
  obtain ⟨s', k1, rfl, k3, k4⟩ := h'
  refine ⟨w.heap.size, [s, s'], rfl, by rw [List.map_cons, List.map_cons, h1, k1]; rfl, by omega, fun j r hr => ?_, fun r hr => ?_⟩
  · have hk := blk_new w (.cells #[s.f, s'.f] 52)
    rw [blk_cell hk]
    match j, hr with
    | 0, hr => simp at hr; subst hr; rfl
    | 1, hr => simp at hr; subst hr; rfl
    | j + 2, hr => simp at hr
  · rcases List.mem_cons.1 hr with rfl | hr
    · exact ⟨pw_cell_below ((Below.refl _ _).alloc (Nat.le_refl _) _) h3, h4⟩
    · obtain rfl := List.mem_singleton.1 hr
      exact ⟨pw_cell_below ((Below.refl _ _).alloc (Nat.le_refl _) _) k3, k4⟩
theorem text_slot (g i : Nat) (w : World) (hg : g < w.heap.size) : Calls Tryz.prog 53 #[.pointer (some ⟨g, i, none⟩)] w fun e w' => e = .returned (.func (.func 88) #[] #[.pointer (some ⟨w.heap.size, 0, none⟩)]) ∧ isSlot g (true, i) (.func (.func 88) #[] #[.pointer (some ⟨w.heap.size, 0, none⟩)]) w' ∧ Below w.heap.size w w' := by
  refine (text_calls ⟨g, i, none⟩ w).mono ?_
  rintro e w' ⟨rfl, rfl⟩
  refine ⟨rfl, ⟨⟨true, w.heap.size, i⟩, rfl, rfl, ?_, by show w.heap.size ≠ g; omega⟩, below_alloc (Below.refl _ _) _⟩
  rw [blk_cell (blk_new w _)]; rfl
theorem num_slot (g i : Nat) (w : World) (hg : g < w.heap.size) : Calls Tryz.prog 63 #[.pointer (some ⟨g, i, none⟩)] w fun e w' => e = .returned (.func (.func 90) #[] #[.pointer (some ⟨w.heap.size, 0, none⟩)]) ∧ isSlot g (false, i) (.func (.func 90) #[] #[.pointer (some ⟨w.heap.size, 0, none⟩)]) w' ∧ Below w.heap.size w w' := by
  refine (num_calls ⟨g, i, none⟩ w).mono ?_
  rintro e w' ⟨rfl, rfl⟩
  refine ⟨rfl, ⟨⟨false, w.heap.size, i⟩, rfl, rfl, ?_, by show w.heap.size ≠ g; omega⟩, below_alloc (Below.refl _ _) _⟩
  rw [blk_cell (blk_new w _)]; rfl
/-- what is known where a line's words are read into the act of block g -/
structure Reads (w : World) (g : Nat) (t : TypeId) (cs : Array Value) (A : Option Addr) (ws : List ByteArray) : Prop where
  blk : w.heap[g]? = some (.cells cs t (0, 0))
  keep : ∀ W o, Wrote w g o W → Kd.C Kd.string W A ws.length ws
  env : ∀ W o, Wrote w g o W → Env W
  len : ∀ s ∈ ws, s.size ≤ 1073741824
/-- cells that hold an act's kinds: text at 1, 2, 4, numbers at 0, 5, 6 -/
def ActCells (cs : Array Value) : Prop := (∃ u, cs[1]? = some (.string u)) ∧ (∃ u, cs[2]? = some (.string u)) ∧ (∃ u, cs[4]? = some (.string u)) ∧ (∃ u, cs[5]? = some (.int .i64 u)) ∧ (∃ u, cs[6]? = some (.int .i64 u))
def tyA (i : Nat) : Bool := i == 1 || i == 2 || i == 4
def actPlaces (L : List Place) : Prop := ∀ p ∈ L, p = (true, 1) ∨ p = (true, 2) ∨ p = (true, 4) ∨ p = (false, 5) ∨ p = (false, 6)
theorem want_from {w w1 : World} {g : Nat} {t : TypeId} {cs : Array Value} {A : Option Addr} {ws : List ByteArray} {L : List Place} {v : Value} (c : Nat) (hR : Reads w g t cs A ws) (hA : ActCells cs) (hL : actPlaces L) (hb : Below w.heap.size w w1) (hw : isWant g L v w1) (hc : ws.length ≤ c) (hn : L.length ≤ 1000) (k : Int) (hk : (L.length ≠ ws.length → k = 243) ∧ (L.length = ws.length → oksP L ws = true → k = 0) ∧ (L.length = ws.length → oksP L ws = false → k = 244)) :
    Calls Tryz.prog 54 #[v, .slice A ws.length c] w1 fun e w' => e = .returned (.int .i64 k) ∧ ∃ cs', Wrote w g (.cells cs' t (0, 0)) w' ∧ (k = 0 → L.length = ws.length ∧ oksP L ws = true ∧ cs' = putsP L ws cs) ∧ Alike cs cs' := by
  obtain ⟨r, fs, rfl, hfl, hrg, hrow, hbox⟩ := hw
  have hlen : fs.length = L.length := by rw [← hfl, List.length_map]
  have hW := Wrote.of hb hR.blk
  by_cases hll : L.length = ws.length
  · have hty : Typed tyA fs cs := by
      intro s hs
      have hp := hL s.pl (by rw [← hfl]; exact List.mem_map.2 ⟨s, hs, rfl⟩)
      obtain ⟨a1, a2, a4, a5, a6⟩ := hA
      unfold Slot.pl at hp
      rcases hp with h | h | h | h | h <;> (injection h with h1 h2; rw [h1, h2]) <;> refine ⟨rfl, ?_⟩
      · exact a1
      · exact a2
      · exact a4
      · exact a5
      · exact a6
    have hF : From w1 g t cs tyA r fs A ws := ⟨hW.at_, hty, hrow, hrg, hbox, hR.keep _ _ hW, fun W o h => hR.keep W o (hW.again h), fun W o h => hR.env W o (hW.again h)⟩
    refine (from_calls' w1 g t cs tyA r fs A ws c hF (hlen.trans hll) hR.len (by omega) hc k ⟨fun h => hk.2.1 hll (by rw [oks_pl, hfl] at h; exact h), fun h => hk.2.2 hll (by rw [oks_pl, hfl] at h; exact h)⟩).mono ?_
    rintro e w' ⟨he, cs', h1, h2, h9⟩
    refine ⟨he, cs', hW.again h1, fun hk0 => ?_, h9⟩
    have hok : oksP L ws = true := by
      cases hq : oksP L ws with
      | true => rfl
      | false => have := hk.2.2 hll hq; omega
    refine ⟨hll, hok, ?_⟩
    rw [h2 (by rw [oks_pl, hfl]; exact hok), puts_pl, hfl]
  · refine (from_words (some ⟨r, 0, none⟩) A fs.length ws.length c fs.length (by rw [hlen]; exact hll) w1).mono ?_
    rintro e w' ⟨he, rfl⟩
    have h243 := hk.1 hll
    exact ⟨by rw [he, h243], cs, hW, fun h => by omega, rfl⟩
end Go.Proofs.YtkfjjmmpbfjhaaaGreatDoor.Tells
