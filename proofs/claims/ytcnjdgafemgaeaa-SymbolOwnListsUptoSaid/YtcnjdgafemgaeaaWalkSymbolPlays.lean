/- The walk of SymbolPlays: what the law computes over any two numbers and any script of steps. Conditions: none. -/
import Derived.Test.YtcnjdgafemgaeaaSymPlays
import Derived.Outline
import Derived.Test.YtcnjdgafemgaeaaPSymbolPlaysx1
namespace Go.Proofs.Ytcnjdgafemgaeaa.Sym
open Go.RowKit Go.Maps Go.WideMaps Go.Proofs.Ytcnjdgafemgaeaa.PSymbolFirst Go.Proofs.YtcnjdgafemgaeaaW.PrintWords Go.Proofs.YtcnjdgafemgaeaaW.PrintLast Go.Proofs.YtcnjdgafemgaeaaW.PrintMore
attribute [local go_sem] max2_int min2_int max_two min_two max_three min_three max_four min_four
set_option linter.unusedVariables false
set_option linter.unusedSimpArgs false
set_option maxHeartbeats 4000000 in
set_option maxRecDepth 100000 in
theorem plays_law (w : World) (A : Option Addr) (n c : Nat) (l : List StepT) (most other : Int) (hl : l.length = n) (hA : StepsAt w A l) (hc : n ≤ c) :
    Calls Try.prog 11 #[.int .i64 most, .int .i64 other, .slice A n c] w fun e w' => e = .returned (.bool true) ∧ Below w.heap.size w w' := by
  have HA := Aside0.mk hA
  have hmax := hA.max
  clear hA
  have hm2 : n ≤ 9223372036854775807 := by unfold maxLen at hmax; omega
  have HBG := Aside0.mk (begins_calls w.heap.size w (w.alloc (.cells #[.pointer none, .pointer none, .pointer none, .pointer none] 67 (0, 0))) w.heap.size most other (Nat.le_refl _) (below_alloc (Below.refl _ _) _) (Nat.le_refl _) (blk_new w _))
  go_enter Try.func11, Try.ntmps11
  go_wp2_with fail
  refine HBG.out.mono ?_; rintro e w1 ⟨rfl, st, ok, hS⟩
  have HS : Aside0 (∃ st ok, OnShelf w.heap.size w w.heap.size st ok w1) := ⟨⟨st, ok, hS⟩⟩
  clear hS HBG
  go_wp2_with fail
  go_loopw [9] (fun i wr => ∃ (k : Nat), i = .int .i64 (k : Int) ∧ k ≤ n ∧ Aside0 (∃ st ok, OnShelf w.heap.size w w.heap.size st ok wr)) (fun i _ => n - (intOf i).toNat)
  case atStart => exact ⟨0, rfl, by omega, HS⟩
  case round =>
    clear HS
    obtain ⟨k, rfl, hk, HS⟩ := hrel
    by_cases hlt : k < n
    · have b1 : decide ((k : Int) < (n : Int)) = true := decide_eq_true (by omega)
      obtain ⟨st, ok, hS⟩ := HS.out
      obtain ⟨ad, rfl, ⟨s0, s1, s2, s3⟩, hss⟩ := HA.out.at_ k (by omega)
      generalize l[k]'(by omega) = q at *
      obtain ⟨K, At, N, s⟩ := q
      have s0 := pw_cell_below_le hS.below s0
      have s1 := pw_cell_below_le hS.below s1
      have s2 := pw_cell_below_le hS.below s2
      have s3 := pw_cell_below_le hS.below s3
      have j0 : (0 : Int) ≤ (k : Int) := by omega
      have j1 : (k : Int) < (n : Int) := by omega
      have HPL := Aside0.mk (fun W (h : OnShelf w.heap.size w w.heap.size st ok W) => plays_calls w.heap.size w W w.heap.size st ok (Nat.le_refl _) h K At N s hss)
      have HS1 := Aside0.mk hS
      clear hS
      go_wp2_with fail
      refine (HPL.out _ HS1.out).mono ?_; rintro e w2 ⟨rfl, st2, ok2, hS2, _, _⟩
      have HS2 := Aside0.mk hS2
      clear hS2 HPL HS1
      go_wp2_with fail
      go_roundw
      case rel => exact ⟨k + 1, by go_num, by omega, ⟨⟨st2, ok2, HS2.out⟩⟩⟩
      case measure => simp [intOf]; omega
    · have b1 : decide ((k : Int) < (n : Int)) = false := decide_eq_false (by omega)
      obtain ⟨st, ok, hS⟩ := HS.out
      have HS1 := Aside0.mk hS
      clear hS
      go_wp2_with fail
      refine (plays_calls w.heap.size w _ w.heap.size _ _ (Nat.le_refl _) (by exact HS1.out) 4 0 0 _ (by unfold maxLen; decide)).mono ?_; rintro e wq2 ⟨rfl, st2, ok2, hS, _, _⟩
      have HS2 := Aside0.mk hS
      clear hS HS1
      go_wp2_with fail
      refine (plays_calls w.heap.size w _ w.heap.size _ _ (Nat.le_refl _) (by exact HS2.out) 4 1 0 _ (by unfold maxLen; decide)).mono ?_; rintro e wq3 ⟨rfl, st3, ok3, hS, _, _⟩
      have HS3 := Aside0.mk hS
      clear hS HS2
      go_wp2_with fail
      refine (plays_calls w.heap.size w _ w.heap.size _ _ (Nat.le_refl _) (by exact HS3.out) 1 0 0 _ (by unfold maxLen; decide)).mono ?_; rintro e wq4 ⟨rfl, st4, ok4, hS, _, _⟩
      have HS4 := Aside0.mk hS
      clear hS HS3
      go_wp2_with fail
      refine (plays_calls w.heap.size w _ w.heap.size _ _ (Nat.le_refl _) (by exact HS4.out) 3 0 0 _ (by unfold maxLen; decide)).mono ?_; rintro e wq5 ⟨rfl, st5, ok5, hS, _, _⟩
      have HS5 := Aside0.mk hS
      clear hS HS4
      go_wp2
      go_ret
      exact ⟨rfl, HS5.out.below⟩
theorem open_script {H : Type} {enc : TypeId × Value → H} {w : World} {base : Nat} {spare : Nat → Bool} {held : Bool} {A : Option Addr} {len cap : Nat} {d : DataW H} {p : List MemPlace}
    (h : DataW.Trod enc Try.prog w base spare held 62 (.slice A len cap) d p) : ∃ l : List StepT, l.length = len ∧ StepsAt w A l ∧ len ≤ cap := by
  obtain ⟨fuel, hf⟩ := h
  rcases Go.Deep.open_slice Try.underlying62 (by simpa [Value.cells] using hf) with ⟨hcs, _⟩ | ⟨a, len', cap', m, n, D, Pl, hcs, _, hl, hm, hmm, _, hx⟩
  · simp at hcs
    obtain ⟨rfl, rfl, rfl⟩ := hcs
    exact ⟨[], rfl, ⟨by unfold maxLen; simp, fun i hi => by simp at hi⟩, Nat.le_refl _⟩
  · simp at hcs
    obtain ⟨rfl, rfl, rfl⟩ := hcs
    have hcells : Try.prog.cellsOf 70 = 4 := by kernel_rfl
    have hone : Try.prog.cellsOf 3 = 1 := by kernel_rfl
    have hone9 : Try.prog.cellsOf 9 = 1 := by kernel_rfl
    rw [hcells] at hx
    have hlm : len ≤ m := by rw [hmm]; split <;> omega
    obtain ⟨l, hll, hp⟩ := list_of (p := fun i (x : StepT) => (∀ j u, [Value.int .i64 x.K, Value.int .i64 x.At, Value.int .i64 x.N, Value.string x.s][j]? = some u → w.cell? (a.add (i * 4 + j)) = some u) ∧ x.s.size ≤ maxLen) len (fun i hi => by
      obtain ⟨cs', hc, ht⟩ := hx i (by omega)
      obtain ⟨_, hlen, hat⟩ := World.cells?_some hc
      obtain ⟨ys, n', _, _, _, hys, hg⟩ := DataW.trod_struct Try.underlying70 ht
      match cs', hlen with
      | [c0, c1, c2, c3], _ =>
        have g0 := hg 0 _ rfl
        have g1 := hg 1 _ rfl
        have g2 := hg 2 _ rfl
        have g3 := hg 3 _ rfl
        match ys, hys with
        | [y0, y1, y2, y3], _ =>
          simp [hone, hone9] at g0 g1 g2 g3
          obtain ⟨x0, e0, _, _⟩ := DataW.trod_int Try.underlying3 g0
          obtain ⟨x1, e1, _, _⟩ := DataW.trod_int Try.underlying3 g1
          obtain ⟨x2, e2, _, _⟩ := DataW.trod_int Try.underlying3 g2
          obtain ⟨x3, e3, _, hs⟩ := DataW.trod_string Try.underlying9 g3
          simp at e0 e1 e2 e3
          subst e0 e1 e2 e3
          refine ⟨⟨x0, x1, x2, x3⟩, fun j u hu => ?_, hs⟩
          have hj : j < 4 := by have := (List.getElem?_eq_some_iff.1 hu).1; simpa using this
          have := hat j hj
          rw [add_add] at this
          rw [this]; exact hu)
    refine ⟨l, hll, ⟨by omega, fun i hi => ?_⟩, hl⟩
    obtain ⟨hq, hs⟩ := hp i l[i] (List.getElem?_eq_getElem hi)
    exact ⟨a, rfl, ⟨hq 0 _ rfl, by rw [← add_field _ _ 1 (by omega)]; exact hq 1 _ rfl, by rw [← add_field _ _ 2 (by omega)]; exact hq 2 _ rfl, by rw [← add_field _ _ 3 (by omega)]; exact hq 3 _ rfl⟩, hs⟩
theorem plays_walk (most other : Int) (A : Option Addr) (n c : Nat) (l : List StepT) (w : World) (hl : l.length = n) (hA : StepsAt w A l) (hc : n ≤ c) :
    Calls Try.prog 11 #[.int .i64 most, .int .i64 other, .slice A n c] w fun e w' => e = .returned (.bool true) ∧ Below w.heap.size w w' :=
  plays_law w A n c l most other hl hA hc
end Go.Proofs.Ytcnjdgafemgaeaa.Sym
