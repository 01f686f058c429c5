/- kilnref24.line, walked. Conditions: those that each theorem states. -/
import Derived.Test.YtkfjjmmpbfjhaaaGreatDoorScrN
namespace Go.Proofs.YtkfjjmmpbfjhaaaGreatDoor.Tells
open Go.RowKit Go.Proofs.YtkfjjmmpbfjhaaaGreatDoor.Facts Go.Proofs.YtkfjjmmpbfjhaaaGreatDoor.PScriptActs Go.Proofs.YtkfjjmmpbfjhaaaGreatDoorW.PrintWords Go.Proofs.YtkfjjmmpbfjhaaaGreatDoorW.PrintLast Go.Proofs.YtkfjjmmpbfjhaaaGreatDoorW.PrintMore
attribute [local go_sem] max2_int min2_int max_two min_two max_three min_three max_four min_four
set_option linter.unusedVariables false
set_option linter.unusedSimpArgs false
theorem Buf.own {w w' : World} {base : Nat} {v : Value} {l : List UInt8} (h : Buf w base v l) (hs : w.heap.size ≤ w'.heap.size) (hk : ∀ k, v.ownBlock = some k → w'.heap[k]? = w.heap[k]?) : Buf w' base v l := by
  obtain ⟨g, cap, rfl, ⟨h1, h2⟩, h3, h4, h5⟩ := h
  have hh := hk g rfl
  exact ⟨g, cap, rfl, ⟨h1, Nat.lt_of_lt_of_le h2 hs⟩, h3, fun j u hu => (cell_heap hh _).1.trans (h4 j u hu), fun j hj => by rw [(cell_heap hh _).1, (cell_heap hh _).2]; exact h5 j hj⟩
def boxC (a : S31) (A : Option Addr) (c : Nat) : Array Value := #[.int .i64 a.f0, .string a.f1, .string a.f2, .slice A a.f3.length c, .string a.f4, .int .i64 a.f5, .int .i64 a.f6]
/-- a line that is being written, as the loop finds it -/
structure LineAt (w : World) (a : S31) (A : Option Addr) (c G : Nat) (v : Value) (l : List UInt8) (b : S31) (wr : World) : Prop where
  below : Below w.heap.size w wr
  box : wr.heap[w.heap.size]? = some (.cells (boxC a A c) 31 (0, 0))
  res : wr.heap[w.heap.size + 1]? = some (.cells (cs0 0) 31 (0, 0))
  n : ∃ A' c', wr.heap[G]? = some (.cells (boxC b A' c') 31 (0, 0)) ∧ ((b.f3 = [] ∧ A' = none ∧ c' = 0) ∨ (b.f3 = a.f3 ∧ A' = A ∧ c' = c))
  buf : Buf wr (w.heap.size + 2) v l
  apart : v.ownBlock ≠ some G
  far : w.heap.size + 2 ≤ G
theorem LineAt.next {w : World} {a : S31} {A : Option Addr} {c G : Nat} {v : Value} {l : List UInt8} {b : S31} {wr w2 : World} (h : LineAt w a A c G v l b wr) (hb : Below wr.heap.size wr w2) : LineAt w a A c G v l b w2 :=
  ⟨below_then h.below h.below.size hb, (hb.block _ (blk_lt h.box)).trans h.box, (hb.block _ (blk_lt h.res)).trans h.res, by obtain ⟨A', c', h1, h2⟩ := h.n; exact ⟨A', c', (hb.block _ (blk_lt h1)).trans h1, h2⟩, h.buf.below hb, h.apart, h.far⟩
theorem LineAt.app {w : World} {a : S31} {A : Option Addr} {c G : Nat} {v v1 : Value} {l l1 : List UInt8} {b : S31} {wr w2 : World} (h : LineAt w a A c G v l b wr) (hB : Buf w2 (w.heap.size + 2) v1 l1) (hb : Below (w.heap.size + 2) wr w2) (hk : ∀ k, k < wr.heap.size → v.ownBlock ≠ some k → w2.heap[k]? = wr.heap[k]?) (hv : v1.ownBlock = v.ownBlock ∨ ∃ b, v1.ownBlock = some b ∧ wr.heap.size ≤ b) : LineAt w a A c G v1 l1 b w2 := by
  obtain ⟨A', c', h1, h2⟩ := h.n
  refine ⟨h.below.trans ⟨hb.os, hb.tape, hb.output, hb.size, fun k hk => hb.block k (by omega)⟩, (hb.block _ (by omega)).trans h.box, (hb.block _ (by omega)).trans h.res, ⟨A', c', (hk _ (blk_lt h1) h.apart).trans h1, h2⟩, hB, ?_, h.far⟩
  rcases hv with e | ⟨q, e, hq⟩
  · rw [e]; exact h.apart
  · rw [e]; intro h3; injection h3 with h3; have := blk_lt h1; omega
theorem LineAt.put {w : World} {a : S31} {A : Option Addr} {c G : Nat} {v : Value} {l : List UInt8} {b b1 : S31} {wr : World} (h : LineAt w a A c G v l b wr) (i : Nat) (x : Value) (hx : ∀ A' c', ((b.f3 = [] ∧ A' = none ∧ c' = 0) ∨ (b.f3 = a.f3 ∧ A' = A ∧ c' = c)) → ∃ A1 c1, (boxC b A' c').setIfInBounds i x = boxC b1 A1 c1 ∧ ((b1.f3 = [] ∧ A1 = none ∧ c1 = 0) ∨ (b1.f3 = a.f3 ∧ A1 = A ∧ c1 = c))) : LineAt w a A c G v l b1 (wr.setCell ⟨G, i, none⟩ x) := by
  obtain ⟨A', c', h1, h2⟩ := h.n
  obtain ⟨A1, c1, e1, e2⟩ := hx A' c' h2
  have hf := h.far
  have hs : (wr.setCell ⟨G, i, none⟩ x).heap.size = wr.heap.size := by simp [World.setCell]
  have hold : ∀ k, k ≠ G → (wr.setCell ⟨G, i, none⟩ x).heap[k]? = wr.heap[k]? := fun k hk => Below.heap_setCell wr _ x k (by exact hk)
  refine ⟨h.below.trans ⟨rfl, rfl, rfl, Nat.le_of_eq hs.symm, fun k hk => hold k (by omega)⟩, (hold _ (by omega)).trans h.box, (hold _ (by omega)).trans h.res, ⟨A1, c1, ?_, e2⟩, h.buf.own (Nat.le_of_eq hs.symm) (fun k hk => hold k (fun e => h.apart (by rw [hk, e]))), h.apart, h.far⟩
  rw [← e1]; exact blk_set h1 i x

theorem refW_calls (s : ByteArray) (hs : s.size ≤ 1048576) (w : World) : Calls Tryz.prog 47 #[.string s] w fun e w' => e = .returned (.string (wordB s)) ∧ Below w.heap.size w w' := refWritten_calls s hs w
theorem soFar_len (a : S31) (ha : Aok a) (hk : 1 ≤ a.f0 ∧ a.f0 ≤ 12) (i : Nat) (hi : i ≤ (formOf a.f0).data.toList.length) : (soFar a i).length ≤ 16777216 := by
  refine Nat.le_trans ?_ (line_len a ha)
  rw [← soFar_all a hk]
  unfold soFar
  rw [List.length_append, List.length_append]
  refine Nat.add_le_add_left ?_ _
  rw [List.take_length]
  have := List.take_append_drop i (formOf a.f0).data.toList
  conv => rhs; rw [← this]
  rw [List.flatMap_append, List.length_append]
  omega
theorem meas_step (n j : Nat) (h : j < n) : n - (intOf (Value.int IntKind.i64 ((j : Int) + 1))).toNat < n - (intOf (Value.int IntKind.i64 (j : Int))).toNat := by simp only [intOf]; omega
theorem wrap_next (j : Nat) (h : j < 4611686018427387904) : wrap64 ((j : Int) + 1) = (j : Int) + 1 := by unfold wrap64; omega
theorem wrote7 {w w' : World} {g : Nat} {z0 z1 z2 z3 z4 z5 z6 v0 v1 v2 v3 v4 v5 v6 : Value} (h : Wrote w g (.cells #[z0, z1, z2, z3, z4, z5, z6] 31 (0, 0)) w') : Wrote w g (.cells #[v0, v1, v2, v3, v4, v5, v6] 31 (0, 0)) (((((((w'.setCell ⟨g, 0, none⟩ v0).setCell ⟨g, 1, none⟩ v1).setCell ⟨g, 2, none⟩ v2).setCell ⟨g, 3, none⟩ v3).setCell ⟨g, 4, none⟩ v4).setCell ⟨g, 5, none⟩ v5).setCell ⟨g, 6, none⟩ v6) := by
  have h0 : Wrote w g (.cells #[v0, z1, z2, z3, z4, z5, z6] 31 (0, 0)) (w'.setCell ⟨g, 0, none⟩ v0) := h.again (Wrote.set (i := 0) (Below.refl _ _) h.at_ v0)
  have h1 : Wrote w g (.cells #[v0, v1, z2, z3, z4, z5, z6] 31 (0, 0)) ((w'.setCell ⟨g, 0, none⟩ v0).setCell ⟨g, 1, none⟩ v1) := h0.again (Wrote.set (i := 1) (Below.refl _ _) h0.at_ v1)
  have h2 : Wrote w g (.cells #[v0, v1, v2, z3, z4, z5, z6] 31 (0, 0)) (((w'.setCell ⟨g, 0, none⟩ v0).setCell ⟨g, 1, none⟩ v1).setCell ⟨g, 2, none⟩ v2) := h1.again (Wrote.set (i := 2) (Below.refl _ _) h1.at_ v2)
  have h3 : Wrote w g (.cells #[v0, v1, v2, v3, z4, z5, z6] 31 (0, 0)) ((((w'.setCell ⟨g, 0, none⟩ v0).setCell ⟨g, 1, none⟩ v1).setCell ⟨g, 2, none⟩ v2).setCell ⟨g, 3, none⟩ v3) := h2.again (Wrote.set (i := 3) (Below.refl _ _) h2.at_ v3)
  have h4 : Wrote w g (.cells #[v0, v1, v2, v3, v4, z5, z6] 31 (0, 0)) (((((w'.setCell ⟨g, 0, none⟩ v0).setCell ⟨g, 1, none⟩ v1).setCell ⟨g, 2, none⟩ v2).setCell ⟨g, 3, none⟩ v3).setCell ⟨g, 4, none⟩ v4) := h3.again (Wrote.set (i := 4) (Below.refl _ _) h3.at_ v4)
  have h5 : Wrote w g (.cells #[v0, v1, v2, v3, v4, v5, z6] 31 (0, 0)) ((((((w'.setCell ⟨g, 0, none⟩ v0).setCell ⟨g, 1, none⟩ v1).setCell ⟨g, 2, none⟩ v2).setCell ⟨g, 3, none⟩ v3).setCell ⟨g, 4, none⟩ v4).setCell ⟨g, 5, none⟩ v5) := h4.again (Wrote.set (i := 5) (Below.refl _ _) h4.at_ v5)
  have h6 : Wrote w g (.cells #[v0, v1, v2, v3, v4, v5, v6] 31 (0, 0)) (((((((w'.setCell ⟨g, 0, none⟩ v0).setCell ⟨g, 1, none⟩ v1).setCell ⟨g, 2, none⟩ v2).setCell ⟨g, 3, none⟩ v3).setCell ⟨g, 4, none⟩ v4).setCell ⟨g, 5, none⟩ v5).setCell ⟨g, 6, none⟩ v6) := h5.again (Wrote.set (i := 6) (Below.refl _ _) h5.at_ v6)
  exact h6
theorem C_nil (w : World) : Kd.C Kd.string w none ([] : List ByteArray).length [] := by
  obtain ⟨A, c, e, _, h⟩ := Kd.R_reads (Kd.R_nil Kd.string 9 w 0 (fun _ => True))
  injection e with e1
  rw [e1]; exact h
theorem wordL_at (k : Int) (h : 1 ≤ k ∧ k ≤ 12) : rdOf ByteArray.empty wordL k = nameOf k := by
  rcases kinds12 k h with rfl | rfl | rfl | rfl | rfl | rfl | rfl | rfl | rfl | rfl | rfl | rfl <;> rfl
theorem formL_at (k : Int) : rdOf ByteArray.empty formL k = formOf k := rfl
set_option maxHeartbeats 4000000 in
set_option maxRecDepth 100000 in
theorem line_calls (a : S31) (ha : Aok a) (hk : 1 ≤ a.f0 ∧ a.f0 ≤ 12) (A : Option Addr) (c : Nat) (w : World) (E : Env w) (hC : Kd.C Kd.string w A a.f3.length a.f3) (hc : a.f3.length ≤ c) : Calls Tryz.prog 27 #[actV a A c] w fun e w' => ∃ (s : ByteArray) (A' : Option Addr) (c' : Nat), e = .returned (.tuple #[.string s, actV (only a) A' c']) ∧ Kd.C Kd.string w' A' (only a).f3.length (only a).f3 ∧ (only a).f3.length ≤ c' ∧ (s.data.toList = lineL a ∨ (262144 < s.size ∧ 262144 < (lineL a).length)) ∧ Below w.heap.size w w' := by
  have HA := Aside0.mk ha
  have HE := Aside0.mk E
  have HC := Aside0.mk (And.intro hC hc)
  have HK := Aside0.mk hk
  have hcnt := ha.count
  have q0 : (0 : Int) ≤ a.f0 := by omega
  have q1 : a.f0 < (13 : Int) := by omega
  unfold actV
  clear ha E hC hc hk
  go_enter Tryz.func27, Tryz.ntmps27
  have HB0 : Aside0 (∀ W, W = ((w.alloc (.cells (boxC a A c) 31 (0, 0))).alloc (.cells (cs0 0) 31 (0, 0))) → Below w.heap.size w W ∧ W.heap[w.heap.size]? = some (.cells (boxC a A c) 31 (0, 0)) ∧ W.heap[w.heap.size + 1]? = some (.cells (cs0 0) 31 (0, 0)) ∧ W.heap.size = w.heap.size + 2) := ⟨fun W hW => by
    have hs : (w.alloc (.cells (boxC a A c) 31 (0, 0))).heap.size = w.heap.size + 1 := by simp
    subst hW
    refine ⟨below_alloc (below_alloc (Below.refl _ _) _) _, ?_, ?_, by simp⟩
    · exact (((Below.refl _ _).alloc (Nat.le_refl _) _).block _ (by omega)).trans (blk_new w _)
    · have := blk_new (w.alloc (.cells (boxC a A c) 31 (0, 0))) (.cells (cs0 0) 31 (0, 0))
      rw [hs] at this; exact this⟩
  have HZ1 : Aside0 ((nameOf a.f0).size ≤ 7) := ⟨by have := name_len a.f0; rw [← bl_len]; exact this⟩
  go_wp2_with fail
  refine (kilnref24_acts.calls wordL _ rfl).mono ?_; rintro e w1 ⟨v4, rfl, hR1, hb1⟩
  have H1 : Aside0 (Below w.heap.size w w1 ∧ w1.heap[w.heap.size]? = some (.cells (boxC a A c) 31 (0, 0)) ∧ w1.heap[w.heap.size + 1]? = some (.cells (cs0 0) 31 (0, 0)) ∧ w.heap.size + 2 ≤ w1.heap.size ∧ Kd.R Kd.string 9 w1 0 (fun _ => True) v4 wordL) := ⟨by
    obtain ⟨z1, z2, z3, z4⟩ := HB0.out _ rfl
    have hs := hb1.size
    simp at hs
    exact ⟨below_then z1 z1.size hb1, (hb1.block _ (blk_lt z2)).trans z2, (hb1.block _ (blk_lt z3)).trans z3, hs, Kd.R_lower hR1 (Nat.zero_le _)⟩⟩
  clear hR1 hb1 HB0
  go_wp2_with fail
  refine (kilnref24_shapes.calls formL _ rfl).mono ?_; rintro e w2 ⟨v5, rfl, hR2, hb2⟩
  have H2 : Aside0 (Below w.heap.size w w2 ∧ w2.heap[w.heap.size]? = some (.cells (boxC a A c) 31 (0, 0)) ∧ w2.heap[w.heap.size + 1]? = some (.cells (cs0 0) 31 (0, 0)) ∧ w.heap.size + 2 ≤ w2.heap.size ∧ Kd.R Kd.string 9 w2 0 (fun _ => True) v4 wordL ∧ Kd.R Kd.string 9 w2 0 (fun _ => True) v5 formL) := ⟨by
    obtain ⟨z1, z2, z3, z4, z5⟩ := H1.out
    exact ⟨below_then z1 z1.size hb2, (hb2.block _ (by omega)).trans z2, (hb2.block _ (by omega)).trans z3, by have := hb2.size; omega, Kd.R_below z5 hb2, Kd.R_lower hR2 (Nat.zero_le _)⟩⟩
  clear hR2 hb2 H1
  obtain ⟨A4, c4, e4, h4, hC4⟩ := Kd.R_reads H2.out.2.2.2.2.1
  obtain ⟨A5, c5, e5, h5, hC5⟩ := Kd.R_reads H2.out.2.2.2.2.2
  subst e4 e5
  have l4 : wordL.length = 13 := rfl
  have l5 : formL.length = 13 := rfl
  rw [l4] at h4 hC4
  rw [l5] at h5 hC5
  have H45 := Aside0.mk (And.intro hC4 hC5)
  obtain ⟨ad4, rfl, hc4⟩ := Kd.at_string hC4 a.f0 q0 q1
  obtain ⟨ad5, rfl, hc5⟩ := Kd.at_string hC5 a.f0 q0 q1
  rw [wordL_at _ HK.out] at hc4
  rw [formL_at] at hc5
  have H5 := Aside0.mk hc5
  have k0 : w2.cell? ⟨w.heap.size, 0, none⟩ = some (.int .i64 a.f0) := by rw [blk_cell H2.out.2.1]; rfl
  rw [l4, l5]
  clear hC4 hC5 hc5 h4 h5 l4 l5
  obtain ⟨v6, w3, hcv, hB3, hb3⟩ := conv_run w2 (w.heap.size + 2) (nameOf a.f0) (Nat.le_trans HZ1.out (by decide)) H2.out.2.2.2.1
  obtain ⟨G, hG⟩ : ∃ G, G = w3.heap.size := ⟨_, rfl⟩
  have HW3 : Aside0 (Buf w3 (w.heap.size + 2) v6 (nameOf a.f0).data.toList ∧ Below w2.heap.size w2 w3) := ⟨hB3, hb3⟩
  have H3 : Aside0 (∀ W, W = w3.alloc (.cells (cs0 a.f0) 31 (0, 0)) → LineAt w a A c G v6 (soFar a 0) (actFar a 0) W) := ⟨fun W hW => by
    obtain ⟨z1, z2, z3, z4, z5⟩ := H2.out
    have hb : Below w2.heap.size w2 W := by rw [hW]; exact below_alloc hb3 _
    have hb' : Below w3.heap.size w3 W := by rw [hW]; exact below_alloc (Below.refl _ _) _
    rw [soFar_0, actFar_0]
    refine ⟨below_then z1 z1.size hb, (hb.block _ (by omega)).trans z2, (hb.block _ (by omega)).trans z3, ⟨none, 0, ?_, .inl ⟨rfl, rfl, rfl⟩⟩, hB3.below hb', ?_, by have := hb3.size; omega⟩
    · rw [hW, hG]; exact blk_new w3 _
    · obtain ⟨g, cap, rfl, ⟨_, g2⟩, _⟩ := hB3
      intro h
      have h' : g = G := Option.some.inj h
      omega⟩
  have kk : ∀ o2, (w3.alloc o2).cell? ⟨w.heap.size, 0, none⟩ = some (.int .i64 a.f0) := fun o2 => pw_cell_below (below_alloc hb3 o2) k0
  have k3 : w3.cell? ⟨w.heap.size, 0, none⟩ = some (.int .i64 a.f0) := pw_cell_below hb3 k0
  have k5 : ∀ o2, (w3.alloc o2).cell? (ad5.add a.f0.toNat) = some (.string (formOf a.f0)) := fun o2 => pw_cell_below (below_alloc hb3 o2) H5.out
  clear hB3 hb3
  have HZF : Aside0 ((formOf a.f0).data.toList.length = (formOf a.f0).size) := ⟨by rw [Array.length_toList]; rfl⟩
  have HLT := Aside0.mk (letters a.f0 HK.out)
  have HNX := Aside0.mk (soFar_next a)
  have HAN := Aside0.mk (actFar_next a)
  have HALL := Aside0.mk (And.intro (soFar_all a HK.out) (actFar_all a HK.out))
  have HLL := Aside0.mk (fun i (hi : i ≤ (formOf a.f0).data.toList.length) => soFar_len a HA.out HK.out i hi)
  obtain ⟨F, hF⟩ : ∃ F, F = formOf a.f0 := ⟨_, rfl⟩
  rw [← hF] at k5 HZF HLT HALL HNX HAN HLL
  have hF3 := form_len a.f0
  rw [← hF] at hF3
  clear H5 hF
  go_wp2_with fail
  rw [← hG]
  clear hG kk k3 k5 hc4 k0 hcv
  have H3 := Aside0.mk (H3.out _ rfl)
  clear HW3 H2 H45
  go_loopw [6, 9, 10] (fun v6 v9 v10 wr => ∃ (k : Nat), v9 = .int .i64 (k : Int) ∧ k ≤ F.size ∧ Aside0 (∃ l, LineAt w a A c G v6 l (actFar a k) wr ∧ (l = soFar a k ∨ (k = F.size ∧ 262144 < l.length ∧ 262144 < (soFar a k).length)))) (fun _ v9 _ _ => F.size - (intOf v9).toNat)
  case atStart => exact ⟨0, rfl, by omega, ⟨_, H3.out, .inl rfl⟩⟩
  case round =>
    clear H3
    obtain ⟨k, rfl, hk, HL⟩ := hrel
    by_cases hlt : k < F.size
    · have b1 : decide ((k : Int) < (F.size : Int)) = true := decide_eq_true (by omega)
      obtain ⟨cc, hcc, hx1, hx2⟩ := byte_at F k hlt
      have p0 : (0 : Int) ≤ (k : Int) := by omega
      have p1 : (k : Int) < (F.size : Int) := by omega
      obtain ⟨hcs, hk3, hstar⟩ := HLT.out k cc hcc
      have hwk : wrap64 ((k : Int) + 1) = (k : Int) + 1 := by unfold wrap64; omega
      have HMS : Aside0 (F.size - (intOf (Value.int IntKind.i64 ((k : Int) + 1))).toNat < F.size - (intOf (Value.int IntKind.i64 (k : Int))).toNat) := ⟨meas_step _ _ (by assumption)⟩
      have HL2 : Aside0 (LineAt w a A c G u6 (soFar a k) (actFar a k) wr) := ⟨by
        obtain ⟨l, h1, h2⟩ := HL.out
        rcases h2 with rfl | ⟨h2, _⟩
        · exact h1
        · omega⟩
      have HN1 := Aside0.mk (HNX.out k cc hcc)
      have HA1 := Aside0.mk (HAN.out k cc hcc)
      have hll := HLL.out k (by have := HZF.out; omega)
      have kb0 : wr.cell? ⟨w.heap.size, 0, none⟩ = some (.int .i64 a.f0) := by rw [blk_cell HL2.out.box]; rfl
      clear HL
      rcases hcs with rfl | rfl | rfl | rfl | rfl | rfl
      · have hy1 : ∀ h : (k : Int).toNat < F.size, ((F[(k : Int).toNat]'h).toNat : Int) = (110 : Int) := fun h => (hx1 h).trans rfl
        have hy2 : ∀ h : k < F.size, ((F[k]'h).toNat : Int) = (110 : Int) := fun h => (hx2 h).trans rfl
        have kb : wr.cell? ⟨w.heap.size, 1, none⟩ = some (.string a.f1) := by rw [blk_cell HL2.out.box]; rfl
        have hwz : (wordB a.f1).size ≤ 1073741824 := word_size _ HA.out.name
        have hadd : ¬ (9223372036854775807 < (⟨#[32]⟩ : ByteArray).size + (wordB a.f1).size) := by
          have : (⟨#[32]⟩ : ByteArray).size = 1 := rfl
          omega
        have hcat : (⟨#[32]⟩ ++ wordB a.f1 : ByteArray).data.toList = spaced (pieceL a 110) := by simp [spaced, pieceL]
        have hcz : (⟨#[32]⟩ ++ wordB a.f1 : ByteArray).size = 1 + (wordB a.f1).size := by rw [ByteArray.size_append]; rfl
        have HCT := Aside0.mk (And.intro hcat hcz)
        clear hx1 hx2 hcc hstar hcat hcz
        go_wp2_with fail
        refine ((refW_calls a.f1 HA.out.name wr)).mono ?_; rintro e w4 ⟨rfl, hb4⟩
        have HL4 := Aside0.mk (HL2.out.next hb4)
        clear hb4
        have HG4 := Aside0.mk (Nat.le_of_lt (Nat.lt_of_le_of_lt HL4.out.far (blk_lt HL4.out.n.choose_spec.choose_spec.1)))
        go_wp2_with (at_builtin; refine buf_apps2 _ (w.heap.size + 2) rfl (.tmp 38) (.tmp 42) rfl u6 (soFar a k) rfl _ rfl (by exact HL4.out.buf) (by rw [HCT.out.2]; omega) (by exact HG4.out) (by rw [HCT.out.2]; omega) ?_; intro v7 w5 hb5 hb6 hb7 hb8; rw [HCT.out.1, ← HN1.out] at hb5; have HL5 := Aside0.mk (LineAt.app HL4.out hb5 hb6 hb7 hb8); clear hb5 hb6 hb7 hb8; have kc : w5.cell? ⟨w.heap.size, 1, none⟩ = some (.string a.f1) := (by rw [blk_cell HL5.out.box]; rfl); have kg : w5.cell? ⟨G, 1, none⟩ = some (.string (actFar a k).f1) := (by rw [blk_cell HL5.out.n.choose_spec.choose_spec.1]; rfl); have kf : w5.frozen? ⟨G, 1, none⟩ = false := blk_frozen HL5.out.n.choose_spec.choose_spec.1 _)
        go_roundw
        case rel =>
          refine ⟨k + 1, rfl, by omega, ⟨_, ?_, .inl rfl⟩⟩
          rw [HA1.out]
          refine HL5.out.put 1 _ (fun A' c' h => ⟨A', c', ?_, ?_⟩)
          · rfl
          · exact h
        case measure => exact HMS.out
      · have hy1 : ∀ h : (k : Int).toNat < F.size, ((F[(k : Int).toNat]'h).toNat : Int) = (111 : Int) := fun h => (hx1 h).trans rfl
        have hy2 : ∀ h : k < F.size, ((F[k]'h).toNat : Int) = (111 : Int) := fun h => (hx2 h).trans rfl
        have kb : wr.cell? ⟨w.heap.size, 2, none⟩ = some (.string a.f2) := by rw [blk_cell HL2.out.box]; rfl
        have hwz : (wordB a.f2).size ≤ 1073741824 := word_size _ HA.out.other
        have hadd : ¬ (9223372036854775807 < (⟨#[32]⟩ : ByteArray).size + (wordB a.f2).size) := by
          have : (⟨#[32]⟩ : ByteArray).size = 1 := rfl
          omega
        have hcat : (⟨#[32]⟩ ++ wordB a.f2 : ByteArray).data.toList = spaced (pieceL a 111) := by simp [spaced, pieceL]
        have hcz : (⟨#[32]⟩ ++ wordB a.f2 : ByteArray).size = 1 + (wordB a.f2).size := by rw [ByteArray.size_append]; rfl
        have HCT := Aside0.mk (And.intro hcat hcz)
        clear hx1 hx2 hcc hstar hcat hcz
        go_wp2_with fail
        refine ((refW_calls a.f2 HA.out.other wr)).mono ?_; rintro e w4 ⟨rfl, hb4⟩
        have HL4 := Aside0.mk (HL2.out.next hb4)
        clear hb4
        have HG4 := Aside0.mk (Nat.le_of_lt (Nat.lt_of_le_of_lt HL4.out.far (blk_lt HL4.out.n.choose_spec.choose_spec.1)))
        go_wp2_with (at_builtin; refine buf_apps2 _ (w.heap.size + 2) rfl (.tmp 49) (.tmp 53) rfl u6 (soFar a k) rfl _ rfl (by exact HL4.out.buf) (by rw [HCT.out.2]; omega) (by exact HG4.out) (by rw [HCT.out.2]; omega) ?_; intro v7 w5 hb5 hb6 hb7 hb8; rw [HCT.out.1, ← HN1.out] at hb5; have HL5 := Aside0.mk (LineAt.app HL4.out hb5 hb6 hb7 hb8); clear hb5 hb6 hb7 hb8; have kc : w5.cell? ⟨w.heap.size, 2, none⟩ = some (.string a.f2) := (by rw [blk_cell HL5.out.box]; rfl); have kg : w5.cell? ⟨G, 2, none⟩ = some (.string (actFar a k).f2) := (by rw [blk_cell HL5.out.n.choose_spec.choose_spec.1]; rfl); have kf : w5.frozen? ⟨G, 2, none⟩ = false := blk_frozen HL5.out.n.choose_spec.choose_spec.1 _)
        go_roundw
        case rel =>
          refine ⟨k + 1, rfl, by omega, ⟨_, ?_, .inl rfl⟩⟩
          rw [HA1.out]
          refine HL5.out.put 2 _ (fun A' c' h => ⟨A', c', ?_, ?_⟩)
          · rfl
          · exact h
        case measure => exact HMS.out
      · have hy1 : ∀ h : (k : Int).toNat < F.size, ((F[(k : Int).toNat]'h).toNat : Int) = (116 : Int) := fun h => (hx1 h).trans rfl
        have hy2 : ∀ h : k < F.size, ((F[k]'h).toNat : Int) = (116 : Int) := fun h => (hx2 h).trans rfl
        have kb : wr.cell? ⟨w.heap.size, 4, none⟩ = some (.string a.f4) := by rw [blk_cell HL2.out.box]; rfl
        have hwz : (wordB a.f4).size ≤ 1073741824 := word_size _ HA.out.text
        have hadd : ¬ (9223372036854775807 < (⟨#[32]⟩ : ByteArray).size + (wordB a.f4).size) := by
          have : (⟨#[32]⟩ : ByteArray).size = 1 := rfl
          omega
        have hcat : (⟨#[32]⟩ ++ wordB a.f4 : ByteArray).data.toList = spaced (pieceL a 116) := by simp [spaced, pieceL]
        have hcz : (⟨#[32]⟩ ++ wordB a.f4 : ByteArray).size = 1 + (wordB a.f4).size := by rw [ByteArray.size_append]; rfl
        have HCT := Aside0.mk (And.intro hcat hcz)
        clear hx1 hx2 hcc hstar hcat hcz
        go_wp2_with fail
        refine ((refW_calls a.f4 HA.out.text wr)).mono ?_; rintro e w4 ⟨rfl, hb4⟩
        have HL4 := Aside0.mk (HL2.out.next hb4)
        clear hb4
        have HG4 := Aside0.mk (Nat.le_of_lt (Nat.lt_of_le_of_lt HL4.out.far (blk_lt HL4.out.n.choose_spec.choose_spec.1)))
        go_wp2_with (at_builtin; refine buf_apps2 _ (w.heap.size + 2) rfl (.tmp 60) (.tmp 64) rfl u6 (soFar a k) rfl _ rfl (by exact HL4.out.buf) (by rw [HCT.out.2]; omega) (by exact HG4.out) (by rw [HCT.out.2]; omega) ?_; intro v7 w5 hb5 hb6 hb7 hb8; rw [HCT.out.1, ← HN1.out] at hb5; have HL5 := Aside0.mk (LineAt.app HL4.out hb5 hb6 hb7 hb8); clear hb5 hb6 hb7 hb8; have kc : w5.cell? ⟨w.heap.size, 4, none⟩ = some (.string a.f4) := (by rw [blk_cell HL5.out.box]; rfl); have kg : w5.cell? ⟨G, 4, none⟩ = some (.string (actFar a k).f4) := (by rw [blk_cell HL5.out.n.choose_spec.choose_spec.1]; rfl); have kf : w5.frozen? ⟨G, 4, none⟩ = false := blk_frozen HL5.out.n.choose_spec.choose_spec.1 _)
        go_roundw
        case rel =>
          refine ⟨k + 1, rfl, by omega, ⟨_, ?_, .inl rfl⟩⟩
          rw [HA1.out]
          refine HL5.out.put 4 _ (fun A' c' h => ⟨A', c', ?_, ?_⟩)
          · rfl
          · exact h
        case measure => exact HMS.out
      · have hy1 : ∀ h : (k : Int).toNat < F.size, ((F[(k : Int).toNat]'h).toNat : Int) = (35 : Int) := fun h => (hx1 h).trans rfl
        have hy2 : ∀ h : k < F.size, ((F[k]'h).toNat : Int) = (35 : Int) := fun h => (hx2 h).trans rfl
        have kb : wr.cell? ⟨w.heap.size, 5, none⟩ = some (.int .i64 a.f5) := by rw [blk_cell HL2.out.box]; rfl
        have hwz : (itoaB a.f5).size ≤ 1073741824 := num_size _ HA.out.number
        have hadd : ¬ (9223372036854775807 < (⟨#[32]⟩ : ByteArray).size + (itoaB a.f5).size) := by
          have : (⟨#[32]⟩ : ByteArray).size = 1 := rfl
          omega
        have hcat : (⟨#[32]⟩ ++ itoaB a.f5 : ByteArray).data.toList = spaced (pieceL a 35) := by simp [spaced, pieceL]
        have hcz : (⟨#[32]⟩ ++ itoaB a.f5 : ByteArray).size = 1 + (itoaB a.f5).size := by rw [ByteArray.size_append]; rfl
        have HCT := Aside0.mk (And.intro hcat hcz)
        clear hx1 hx2 hcc hstar hcat hcz
        go_wp2_with fail
        refine ((number_calls a.f5 (HA.out.number).1 (HA.out.number).2 wr (HE.out.below HL2.out.below).pow)).mono ?_; rintro e w4 ⟨rfl, hb4⟩
        have HL4 := Aside0.mk (HL2.out.next hb4)
        clear hb4
        have HG4 := Aside0.mk (Nat.le_of_lt (Nat.lt_of_le_of_lt HL4.out.far (blk_lt HL4.out.n.choose_spec.choose_spec.1)))
        go_wp2_with (at_builtin; refine buf_apps2 _ (w.heap.size + 2) rfl (.tmp 71) (.tmp 75) rfl u6 (soFar a k) rfl _ rfl (by exact HL4.out.buf) (by rw [HCT.out.2]; omega) (by exact HG4.out) (by rw [HCT.out.2]; omega) ?_; intro v7 w5 hb5 hb6 hb7 hb8; rw [HCT.out.1, ← HN1.out] at hb5; have HL5 := Aside0.mk (LineAt.app HL4.out hb5 hb6 hb7 hb8); clear hb5 hb6 hb7 hb8; have kc : w5.cell? ⟨w.heap.size, 5, none⟩ = some (.int .i64 a.f5) := (by rw [blk_cell HL5.out.box]; rfl); have kg : w5.cell? ⟨G, 5, none⟩ = some (.int .i64 (actFar a k).f5) := (by rw [blk_cell HL5.out.n.choose_spec.choose_spec.1]; rfl); have kf : w5.frozen? ⟨G, 5, none⟩ = false := blk_frozen HL5.out.n.choose_spec.choose_spec.1 _)
        go_roundw
        case rel =>
          refine ⟨k + 1, rfl, by omega, ⟨_, ?_, .inl rfl⟩⟩
          rw [HA1.out]
          refine HL5.out.put 5 _ (fun A' c' h => ⟨A', c', ?_, ?_⟩)
          · rfl
          · exact h
        case measure => exact HMS.out
      · have hy1 : ∀ h : (k : Int).toNat < F.size, ((F[(k : Int).toNat]'h).toNat : Int) = (102 : Int) := fun h => (hx1 h).trans rfl
        have hy2 : ∀ h : k < F.size, ((F[k]'h).toNat : Int) = (102 : Int) := fun h => (hx2 h).trans rfl
        have kb : wr.cell? ⟨w.heap.size, 6, none⟩ = some (.int .i64 a.f6) := by rw [blk_cell HL2.out.box]; rfl
        have hwz : (itoaB a.f6).size ≤ 1073741824 := num_size _ HA.out.fuel
        have hadd : ¬ (9223372036854775807 < (⟨#[32]⟩ : ByteArray).size + (itoaB a.f6).size) := by
          have : (⟨#[32]⟩ : ByteArray).size = 1 := rfl
          omega
        have hcat : (⟨#[32]⟩ ++ itoaB a.f6 : ByteArray).data.toList = spaced (pieceL a 102) := by simp [spaced, pieceL]
        have hcz : (⟨#[32]⟩ ++ itoaB a.f6 : ByteArray).size = 1 + (itoaB a.f6).size := by rw [ByteArray.size_append]; rfl
        have HCT := Aside0.mk (And.intro hcat hcz)
        clear hx1 hx2 hcc hstar hcat hcz
        go_wp2_with fail
        refine ((number_calls a.f6 (HA.out.fuel).1 (HA.out.fuel).2 wr (HE.out.below HL2.out.below).pow)).mono ?_; rintro e w4 ⟨rfl, hb4⟩
        have HL4 := Aside0.mk (HL2.out.next hb4)
        clear hb4
        have HG4 := Aside0.mk (Nat.le_of_lt (Nat.lt_of_le_of_lt HL4.out.far (blk_lt HL4.out.n.choose_spec.choose_spec.1)))
        go_wp2_with (at_builtin; refine buf_apps2 _ (w.heap.size + 2) rfl (.tmp 82) (.tmp 86) rfl u6 (soFar a k) rfl _ rfl (by exact HL4.out.buf) (by rw [HCT.out.2]; omega) (by exact HG4.out) (by rw [HCT.out.2]; omega) ?_; intro v7 w5 hb5 hb6 hb7 hb8; rw [HCT.out.1, ← HN1.out] at hb5; have HL5 := Aside0.mk (LineAt.app HL4.out hb5 hb6 hb7 hb8); clear hb5 hb6 hb7 hb8; have kc : w5.cell? ⟨w.heap.size, 6, none⟩ = some (.int .i64 a.f6) := (by rw [blk_cell HL5.out.box]; rfl); have kg : w5.cell? ⟨G, 6, none⟩ = some (.int .i64 (actFar a k).f6) := (by rw [blk_cell HL5.out.n.choose_spec.choose_spec.1]; rfl); have kf : w5.frozen? ⟨G, 6, none⟩ = false := blk_frozen HL5.out.n.choose_spec.choose_spec.1 _)
        go_roundw
        case rel =>
          refine ⟨k + 1, rfl, by omega, ⟨_, ?_, .inl rfl⟩⟩
          rw [HA1.out]
          refine HL5.out.put 6 _ (fun A' c' h => ⟨A', c', ?_, ?_⟩)
          · rfl
          · exact h
        case measure => exact HMS.out
      · have hy1 : ∀ h : (k : Int).toNat < F.size, ((F[(k : Int).toNat]'h).toNat : Int) = (42 : Int) := fun h => (hx1 h).trans rfl
        have hy2 : ∀ h : k < F.size, ((F[k]'h).toNat : Int) = (42 : Int) := fun h => (hx2 h).trans rfl
        have hkl : k + 1 = F.size := by have := HZF.out; have := hstar rfl; omega
        clear hx1 hx2 hcc hstar
        obtain ⟨wo, rfl⟩ : ∃ wo : World, wo = wr := ⟨_, rfl⟩
        have HSP : Aside0 (∀ j, j < a.f3.length → spaced ((a.f3.take (j + 1)).map wordB) = spaced ((a.f3.take j).map wordB) ++ 32 :: (wordB (rdOf ByteArray.empty a.f3 (j : Int))).data.toList) := ⟨fun j hj => by
          have : rdOf ByteArray.empty a.f3 (j : Int) = a.f3[j] := by unfold rdOf; rw [Int.toNat_natCast, List.getD_eq_getElem?_getD, List.getElem?_eq_getElem hj]; rfl
          rw [this, List.take_add_one, List.getElem?_eq_getElem hj, List.map_append]
          unfold spaced
          rw [List.flatMap_append]
          simp⟩
        have HPF : Aside0 (∀ j, (soFar a k ++ spaced ((a.f3.take j).map wordB)).length ≤ (soFar a (k + 1)).length) := ⟨fun j => by
          rw [HN1.out]
          have e : spaced (pieceL a 42) = spaced ((a.f3.take j).map wordB) ++ spaced ((a.f3.drop j).map wordB) := by
            have : pieceL a 42 = (a.f3.take j).map wordB ++ (a.f3.drop j).map wordB := by rw [← List.map_append, List.take_append_drop]; simp [pieceL]
            rw [this]; unfold spaced; rw [List.flatMap_append]
          rw [e]; simp⟩
        have hll1 := HLL.out (k + 1) (by have := HZF.out; omega)
        go_wp2_with fail
        go_loopw [6, 10] (fun v6 v10 wr => ∃ (j : Nat), v10 = .int .i64 (j : Int) ∧ j ≤ a.f3.length ∧ Aside0 (LineAt w a A c G v6 (soFar a k ++ spaced ((a.f3.take j).map wordB)) (actFar a k) wr)) (fun _ v10 _ => a.f3.length - (intOf v10).toNat)
        case atStart => exact ⟨0, rfl, by omega, ⟨by simpa [spaced] using HL2.out⟩⟩
        case round =>
          clear HL2
          obtain ⟨j, rfl, hj, HL⟩ := hrel
          have kb : wr.cell? ⟨w.heap.size, 3, none⟩ = some (.slice A a.f3.length c) := by rw [blk_cell HL.out.box]; rfl
          obtain ⟨g6, c6, rfl, _⟩ := HL.out.buf.form
          obtain ⟨L, hL⟩ : ∃ L, L = soFar a k ++ spaced ((a.f3.take j).map wordB) := ⟨_, rfl⟩
          rw [← hL] at HL
          rw [← hL]
          have HLQ := Aside0.mk hL
          have hlz : L.length ≤ 16777216 := by rw [hL]; exact Nat.le_trans (HPF.out j) hll1
          clear hL
          by_cases hjl : j < a.f3.length
          · have b2 : decide ((j : Int) < (a.f3.length : Int)) = true := decide_eq_true (by omega)
            by_cases hbig : L.length ≤ 262144
            · have b3 : decide ((L.length : Int) ≤ 262144) = true := decide_eq_true (by omega)
              have p2 : (0 : Int) ≤ (j : Int) := by omega
              have p3 : (j : Int) < (a.f3.length : Int) := by omega
              obtain ⟨ad, rfl, hcell⟩ := Kd.at_string (Kd.C_below HC.out.1 HL.out.below) (j : Int) p2 p3
              rw [Int.toNat_natCast] at hcell
              have HSJ := Aside0.mk (HSP.out j hjl)
              have hrs : (rdOf ByteArray.empty a.f3 (j : Int)).size ≤ 1048576 := by
                have : rdOf ByteArray.empty a.f3 (j : Int) = a.f3[j] := by unfold rdOf; rw [Int.toNat_natCast, List.getD_eq_getElem?_getD, List.getElem?_eq_getElem hjl]; rfl
                rw [this]; exact HA.out.names _ (List.getElem_mem hjl)
              obtain ⟨nm, hnm⟩ : ∃ nm, nm = rdOf ByteArray.empty a.f3 (j : Int) := ⟨_, rfl⟩
              rw [← hnm] at hcell HSJ hrs
              clear hnm
              have hwj : wrap64 ((j : Int) + 1) = (j : Int) + 1 := wrap_next j (by omega)
              have HMJ : Aside0 (a.f3.length - (intOf (Value.int IntKind.i64 ((j : Int) + 1))).toNat < a.f3.length - (intOf (Value.int IntKind.i64 (j : Int))).toNat) := ⟨meas_step _ _ (by assumption)⟩
              have hwz : (wordB nm).size ≤ 1073741824 := word_size _ hrs
              have hadd : ¬ (9223372036854775807 < (⟨#[32]⟩ : ByteArray).size + (wordB nm).size) := by
                have : (⟨#[32]⟩ : ByteArray).size = 1 := rfl
                omega
              have hcat : (⟨#[32]⟩ ++ wordB nm : ByteArray).data.toList = 32 :: (wordB nm).data.toList := by simp
              have hcz : (⟨#[32]⟩ ++ wordB nm : ByteArray).size = 1 + (wordB nm).size := by rw [ByteArray.size_append]; rfl
              have HCT := Aside0.mk (And.intro hcat hcz)
              have HSZ : Aside0 (L.length + (⟨#[32]⟩ ++ wordB nm : ByteArray).size ≤ 140737488355328 ∧ 0 < (⟨#[32]⟩ ++ wordB nm : ByteArray).size) := ⟨by rw [hcz]; constructor <;> omega⟩
              have HJ1 : Aside0 (j + 1 ≤ a.f3.length) := ⟨hjl⟩
              have b4 : (L.length ≤ 262144) = True := eq_true hbig
              have b5 : decide (L.length ≤ 262144) = true := decide_eq_true hbig
              clear hcat hcz hbig hjl
              go_wp2_with fail
              refine (refW_calls nm hrs wr).mono ?_; rintro e w4 ⟨rfl, hb4⟩
              have HL4 := Aside0.mk (HL.out.next hb4)
              clear hb4
              have HG4 := Aside0.mk (Nat.le_of_lt (Nat.lt_of_le_of_lt HL4.out.far (blk_lt HL4.out.n.choose_spec.choose_spec.1)))
              go_wp2_with (at_builtin; refine buf_apps2 _ (w.heap.size + 2) rfl (.tmp 105) (.tmp 112) rfl _ L rfl _ rfl (by exact HL4.out.buf) (by exact HSZ.out.1) (by exact HG4.out) (by exact HSZ.out.2) ?_; intro v7 w5 hb5 hb6 hb7 hb8; rw [HCT.out.1] at hb5; have HL5 := Aside0.mk (LineAt.app HL4.out hb5 hb6 hb7 hb8); clear hb5 hb6 hb7 hb8)
              go_roundw
              case rel =>
                refine ⟨j + 1, by rw [hwj]; rfl, HJ1.out, ⟨?_⟩⟩
                rw [HSJ.out, ← List.append_assoc, ← HLQ.out]
                exact HL5.out
              case measure => rw [hwj]; exact HMJ.out
            · have b3 : decide ((L.length : Int) ≤ 262144) = false := decide_eq_false (by omega)
              have b4 : (L.length ≤ 262144) = False := eq_false hbig
              have b5 : decide (L.length ≤ 262144) = false := decide_eq_false hbig
              have kg : wr.cell? ⟨G, 3, none⟩ = some (.slice HL.out.n.choose (actFar a k).f3.length HL.out.n.choose_spec.choose) := by rw [blk_cell HL.out.n.choose_spec.choose_spec.1]; rfl
              have kf : wr.frozen? ⟨G, 3, none⟩ = false := blk_frozen HL.out.n.choose_spec.choose_spec.1 _
              have HBG : Aside0 (262144 < L.length ∧ L.length ≤ (soFar a (k + 1)).length) := ⟨by omega, by rw [HLQ.out]; exact HPF.out j⟩
              clear hbig
              go_wp2_with fail
              go_roundw
              case rel =>
                refine ⟨k + 1, rfl, Nat.le_of_eq hkl, ⟨_, ?_, .inr ⟨hkl, HBG.out.1, Nat.lt_of_lt_of_le HBG.out.1 HBG.out.2⟩⟩⟩
                rw [HA1.out]
                refine HL.out.put 3 _ (fun A' c' h => ⟨A, c, ?_, ?_⟩)
                · rfl
                · exact .inr ⟨rfl, rfl, rfl⟩
              case measure => exact HMS.out
          · have b2 : decide ((j : Int) < (a.f3.length : Int)) = false := decide_eq_false (by omega)
            have kg : wr.cell? ⟨G, 3, none⟩ = some (.slice HL.out.n.choose (actFar a k).f3.length HL.out.n.choose_spec.choose) := by rw [blk_cell HL.out.n.choose_spec.choose_spec.1]; rfl
            have kf : wr.frozen? ⟨G, 3, none⟩ = false := blk_frozen HL.out.n.choose_spec.choose_spec.1 _
            have HEQ : Aside0 (L = soFar a (k + 1)) := ⟨by
              rw [HN1.out, HLQ.out, List.take_of_length_le (by omega)]
              simp [pieceL]⟩
            have b4 : (j < a.f3.length) = False := eq_false hjl
            have b5 : decide (j < a.f3.length) = false := decide_eq_false hjl
            clear hjl
            go_wp2_with fail
            go_roundw
            case rel =>
              refine ⟨k + 1, rfl, Nat.le_of_eq hkl, ⟨_, ?_, .inl HEQ.out⟩⟩
              rw [HA1.out]
              refine HL.out.put 3 _ (fun A' c' h => ⟨A, c, ?_, ?_⟩)
              · rfl
              · exact .inr ⟨rfl, rfl, rfl⟩
            case measure => exact HMS.out
    · have b1 : decide ((k : Int) < (F.size : Int)) = false := decide_eq_false (by omega)
      obtain rfl : k = F.size := by omega
      obtain ⟨A8, c8, h8, hn8⟩ : ∃ A8 c8, wr.heap[G]? = some (.cells (boxC (only a) A8 c8) 31 (0, 0)) ∧ (((only a).f3 = [] ∧ A8 = none ∧ c8 = 0) ∨ ((only a).f3 = a.f3 ∧ A8 = A ∧ c8 = c)) := by
        obtain ⟨l, h1, _⟩ := HL.out
        have := h1.n
        rw [← HZF.out, HALL.out.2] at this
        exact this
      have HN8 := Aside0.mk hn8
      have HL8 : Aside0 (∃ l : List UInt8, LineAt w a A c G u6 l (actFar a F.size) wr ∧ (l = lineL a ∨ (262144 < l.length ∧ 262144 < (lineL a).length))) := ⟨by
        obtain ⟨l, h1, h2⟩ := HL.out
        rw [← HZF.out, HALL.out.1] at h2
        rcases h2 with h2 | ⟨_, h2⟩
        · exact ⟨l, h1, .inl h2⟩
        · exact ⟨l, h1, .inr h2⟩⟩
      obtain ⟨l, hl⟩ := HL8.out
      have HL9 := Aside0.mk hl
      have hcv := buf_string wr (w.heap.size + 2) u6 l hl.1.buf
      have g0 : wr.cell? ⟨G, 0, none⟩ = some (.int .i64 (only a).f0) := by rw [blk_cell h8]; rfl
      have g1 : wr.cell? ⟨G, 1, none⟩ = some (.string (only a).f1) := by rw [blk_cell h8]; rfl
      have g2 : wr.cell? ⟨G, 2, none⟩ = some (.string (only a).f2) := by rw [blk_cell h8]; rfl
      have g3 : wr.cell? ⟨G, 3, none⟩ = some (.slice A8 (only a).f3.length c8) := by rw [blk_cell h8]; rfl
      have g4 : wr.cell? ⟨G, 4, none⟩ = some (.string (only a).f4) := by rw [blk_cell h8]; rfl
      have g5 : wr.cell? ⟨G, 5, none⟩ = some (.int .i64 (only a).f5) := by rw [blk_cell h8]; rfl
      have g6 : wr.cell? ⟨G, 6, none⟩ = some (.int .i64 (only a).f6) := by rw [blk_cell h8]; rfl
      have HWR : Aside0 (Wrote wr (w.heap.size + 1) (.cells (cs0 0) 31 (0, 0)) wr.drew) := ⟨Wrote.of (below_drew (Below.refl _ _)) hl.1.res⟩
      have HWF : Aside0 (∀ (e : Nat) (w' : World), Wrote wr (w.heap.size + 1) (.cells (if e = 0 then cs0 0 else boxC (only a) A8 c8) 31 (0, 0)) w' → w'.heap[G]? = some (.cells (boxC (only a) A8 c8) 31 (0, 0)) ∧ Buf w' (w.heap.size + 2) u6 l) := ⟨fun e w' hw => by
        have hf := hl.1.far
        refine ⟨(hw.block _ (blk_lt h8) (by omega)).trans h8, hl.1.buf.own hw.size (fun q hq => ?_)⟩
        obtain ⟨g, cap, rfl, ⟨x1, x2⟩, _⟩ := hl.1.buf
        have hq' : g = q := Option.some.inj hq
        exact hw.block _ (by omega) (by omega)⟩
      clear hl h8 hn8 HL HL8 hcv g0 g1 g2 g3 g4 g5 g6
      go_wp2_with fail
      refine region_facts (ws := [4]) (G := fun e w' => Aside0 (Wrote wr (w.heap.size + 1) (.cells (if e = 0 then cs0 0 else boxC (only a) A8 c8) 31 (0, 0)) w')) (φs := [Fact.eq u6, Fact.eq (.string ⟨l.toArray⟩), Fact.eq (.agg #[.int .i64 (only a).f0, .string (only a).f1, .string (only a).f2, .slice A8 (only a).f3.length c8, .string (only a).f4, .int .i64 (only a).f5, .int .i64 (only a).f6]), Fact.eq (.string ⟨l.toArray⟩), Fact.none]) (n := 5) (m := 120) (by kernel_rfl) (by kernel_rfl) rfl rfl (by kernel_rfl) (fun _ _ _ h hb => ⟨h.out.then hb⟩) (⟨HWR.out⟩) ⟨?o0, ?o1, ?o2, ?o3, ?o4, trivial⟩ ?fin
      case o0 =>
        refine ask_val [.fix 6 _] rfl 117 rfl (.inl rfl) ⟨⟨by kernel_rfl, by conv => lhs; whnf⟩, trivial⟩ ?_
        dsimp only [Has, Fact.eq]
        intro e ρ w' hc hf hg hG h6
        go_simp
        first | done | rfl
      case o1 =>
        refine ask_val [.op 117 0 (Fact.eq _)] rfl 118 rfl (.inl rfl) ⟨⟨by kernel_rfl, rfl⟩, trivial⟩ ?_
        dsimp only [Has, Fact.eq]
        intro e ρ w' hc hf hg hG h117
        have hcv := buf_string w' (w.heap.size + 2) u6 l (HWF.out e w' hG.out).2
        go_simp
        first | done | rfl
      case o2 =>
        refine ask_val [.fix 7 _] rfl 119 rfl (.inl rfl) ⟨⟨by kernel_rfl, by conv => lhs; whnf⟩, trivial⟩ ?_
        dsimp only [Has, Fact.eq]
        intro e ρ w' hc hf hg hG h7
        have hk := (HWF.out e w' hG.out).1
        have c0 : w'.cell? ⟨G, 0, none⟩ = some (.int .i64 (only a).f0) := by rw [blk_cell hk]; rfl
        have c1 : w'.cell? ⟨G, 1, none⟩ = some (.string (only a).f1) := by rw [blk_cell hk]; rfl
        have c2 : w'.cell? ⟨G, 2, none⟩ = some (.string (only a).f2) := by rw [blk_cell hk]; rfl
        have c3 : w'.cell? ⟨G, 3, none⟩ = some (.slice A8 (only a).f3.length c8) := by rw [blk_cell hk]; rfl
        have c4 : w'.cell? ⟨G, 4, none⟩ = some (.string (only a).f4) := by rw [blk_cell hk]; rfl
        have c5 : w'.cell? ⟨G, 5, none⟩ = some (.int .i64 (only a).f5) := by rw [blk_cell hk]; rfl
        have c6 : w'.cell? ⟨G, 6, none⟩ = some (.int .i64 (only a).f6) := by rw [blk_cell hk]; rfl
        go_simp
        first | done | rfl
      case o3 =>
        refine ask_val [.op 118 1 (Fact.eq _)] rfl 2 rfl (.inl rfl) ⟨⟨by kernel_rfl, rfl⟩, trivial⟩ ?_
        dsimp only [Has, Fact.eq]
        intro e ρ w' hc hf hg hG h118
        go_simp
        first | done | rfl
      case o4 =>
        refine ask_store [.fix 3 _, .op 119 2 (Fact.eq _)] rfl rfl (.inl rfl) ⟨⟨by kernel_rfl, by conv => lhs; whnf⟩, ⟨by kernel_rfl, rfl⟩, trivial⟩ 0 0 (by kernel_rfl) ?_
        dsimp only [Has, Fact.eq]
        intro e ρ w' hp hq hc hf hg hG h3 h119
        obtain rfl : e = 0 := by omega
        have hk := hG.out.at_
        have d0 : w'.cell? ⟨w.heap.size + 1, 0, none⟩ = some (.int .i64 0) := by rw [blk_cell hk]; rfl
        have d1 : w'.cell? ⟨w.heap.size + 1, 1, none⟩ = some (.string ⟨#[]⟩) := by rw [blk_cell hk]; rfl
        have d2 : w'.cell? ⟨w.heap.size + 1, 2, none⟩ = some (.string ⟨#[]⟩) := by rw [blk_cell hk]; rfl
        have d3 : w'.cell? ⟨w.heap.size + 1, 3, none⟩ = some (.slice none 0 0) := by rw [blk_cell hk]; rfl
        have d4 : w'.cell? ⟨w.heap.size + 1, 4, none⟩ = some (.string ⟨#[]⟩) := by rw [blk_cell hk]; rfl
        have d5 : w'.cell? ⟨w.heap.size + 1, 5, none⟩ = some (.int .i64 0) := by rw [blk_cell hk]; rfl
        have d6 : w'.cell? ⟨w.heap.size + 1, 6, none⟩ = some (.int .i64 0) := by rw [blk_cell hk]; rfl
        have f0 := fun i => blk_frozen hk i
        refine ⟨?_, ?_, trivial, ?_, ⟨fun _ h => h, fun _ h => h, fun _ h => h, fun _ h => h, fun _ h => h, trivial⟩⟩
        rotate_left
        · go_simp
          rfl
        · exact ⟨wrote7 hG.out⟩
      case fin =>
        intro w' hG
        refine fin_eq (fin_eq (fin_eq (fin_eq (fin_fact (fun v4 hv4 => fin_nil (a' := ?_) ?_ ?_)))))
        rotate_left
        · simp only [Act.put, List.setIfInBounds_toArray, List.set_cons_zero, List.set_cons_succ]
          rfl
        have hk : w'.heap[w.heap.size + 1]? = some (.cells (boxC (only a) A8 c8) 31 (0, 0)) := hG.out.at_
        have hsz : w.heap.size + 2 ≤ wr.heap.size := Nat.le_of_lt (Nat.lt_of_le_of_lt HL9.out.1.far (blk_lt HL9.out.1.n.choose_spec.choose_spec.1))
        have HBL : Aside0 (Below w.heap.size w w') := ⟨HL9.out.1.below.trans (hG.out.below (Nat.le_succ _) (by omega))⟩
        have HLB : Aside0 (Below w.heap.size w wr) := ⟨HL9.out.1.below⟩
        have HCN : Aside0 (Kd.C Kd.string w' A8 (only a).f3.length (only a).f3 ∧ (only a).f3.length ≤ c8) := ⟨by
          rcases HN8.out with ⟨e1, e2, e3⟩ | ⟨e1, e2, e3⟩
          · rw [e1, e2, e3]; exact ⟨C_nil _, Nat.le_refl _⟩
          · rw [e1, e2, e3]; exact ⟨Kd.C_below HC.out.1 HBL.out, HC.out.2⟩⟩
        have HOR : Aside0 ((⟨l.toArray⟩ : ByteArray).data.toList = lineL a ∨ (262144 < (⟨l.toArray⟩ : ByteArray).size ∧ 262144 < (lineL a).length)) := ⟨by
          have e : (⟨l.toArray⟩ : ByteArray).size = l.length := by show l.toArray.size = _; simp
          rcases HL9.out.2 with h | h
          · left; simpa using h
          · right; rw [e]; exact h⟩
        have HKK := Aside0.mk hk
        clear hG hk hsz
        go_wp2_with fail
        (try simp only [Exit.inBlock, Exit.then])
        refine bodyPost_ret (results_tc rfl _ _ (w.heap.size + 1) 31 (boxC (only a) A8 c8) (0, 0) _ rfl HKK.out Tryz.underlying31 rfl (by kernel_rfl)) rfl ?_
        exact ⟨_, A8, c8, rfl, HCN.out.1, HCN.out.2, HOR.out, HBL.out⟩
end Go.Proofs.YtkfjjmmpbfjhaaaGreatDoor.Tells
