/- kilnlaw24's left: all that was handed over is as it was, walked. Conditions: those that each theorem states. -/
import Derived.Test.YtkfjjmmpbfjhaaaGreatDoorScrQ
namespace Go.Proofs.YtkfjjmmpbfjhaaaGreatDoor.Tells
open Go.RowKit Go.Proofs.YtkfjjmmpbfjhaaaGreatDoor.Facts Go.Proofs.YtkfjjmmpbfjhaaaGreatDoor.PScriptActs Go.Proofs.YtkfjjmmpbfjhaaaGreatDoorW.PrintWords Go.Proofs.YtkfjjmmpbfjhaaaGreatDoorW.PrintLast Go.Proofs.YtkfjjmmpbfjhaaaGreatDoorW.PrintMore
attribute [local go_sem] max2_int min2_int max_two min_two max_three min_three max_four min_four
set_option linter.unusedVariables false
set_option linter.unusedSimpArgs false
theorem HandAt.next {W W2 : World} {base g : Nat} {p0 p1 : Int} {n F cF : Nat} {vN : Value} {L : List (S31 × Nat × Nat)} (h : HandAt W base g p0 p1 n F cF vN L) (hb : Below W.heap.size W W2) : HandAt W2 base g p0 p1 n F cF vN L :=
  ⟨(hb.block _ (blk_lt h.blk)).trans h.blk, Kd.R_below h.full hb, Kd.R_below h.names hb, fun e he => ⟨(h.twins e he).1, Kd.R_below (h.twins e he).2 hb⟩, h.len, h.room⟩
/-- elements' cells that are read as acts -/
theorem acts_C {W : World} {A : Option Addr} {n : Nat} {fs : List (List Value)} {acts : List S31} (h : (Kd.raw 7).C W A n fs) (hl : acts.length = fs.length) (hk : ∀ (i : Nat) (a : S31) (f : List Value), acts[i]? = some a → fs[i]? = some f → ∃ A3 c3, f = [.int .i64 a.f0, .string a.f1, .string a.f2, .slice A3 a.f3.length c3, .string a.f4, .int .i64 a.f5, .int .i64 a.f6] ∧ a.f3.length ≤ c3 ∧ Kd.string.C W A3 a.f3.length a.f3) : k31.C W A n acts := by
  refine ⟨hl.trans h.1, h.2.1, fun h0 => ?_⟩
  obtain ⟨ad, e, hc⟩ := h.2.2 h0
  refine ⟨ad, e, fun j p hj => ?_⟩
  have hjl : j < fs.length := by have := (List.getElem?_eq_some_iff.1 hj).1; omega
  obtain ⟨c, hcl, hcr, hcc⟩ := hc j fs[j] (List.getElem?_eq_getElem hjl)
  obtain ⟨A3, c3, ef, hl3, hC3⟩ := hk j p fs[j] hj (List.getElem?_eq_getElem hjl)
  refine ⟨c, hcl, ?_, hcc⟩
  have : c = fs[j] := hcr.1
  rw [this, ef]
  exact k31_mk W p hl3 hC3
theorem twin_C {W : World} {base t cap : Nat} {X : List ByteArray} (h : Kd.R Kd.string 9 W base (fun _ => True) (.slice (some ⟨t, 0, none⟩) (X.length + 8) cap) (twinL X)) : Kd.string.C W (some ⟨t, 0, none⟩) (X.length + 8) (twinL X) ∧ Kd.string.C W (some ⟨t, 0, none⟩) X.length X := by
  obtain ⟨A9, c9, e9, h9, hC9⟩ := Kd.R_reads h
  injection e9 with e1 _ _
  subst e1
  have h2 := Kd.C_take hC9 (m := X.length) (by rw [twin_len]; omega)
  have e : (twinL X).take X.length = X := by unfold twinL; simp
  rw [e] at h2
  rw [twin_len] at hC9
  exact ⟨hC9, h2⟩
theorem HandAt.reads {W : World} {base g : Nat} {p0 p1 : Int} {n F cF : Nat} {vN : Value} {L : List (S31 × Nat × Nat)} (h : HandAt W base g p0 p1 n F cF vN L) : k31.C W (some ⟨F, 0, none⟩) (n + 8) (L.map (·.1) ++ List.replicate 8 (act0 77)) ∧ k31.C W (some ⟨F, 0, none⟩) n (L.map (·.1)) ∧ ∃ AN cN, vN = .slice AN n cN ∧ n ≤ cN ∧ (0 < n → ∃ ad, AN = some ad ∧ ∀ i e, L[i]? = some e → W.cell? (ad.add i) = some (.slice (some ⟨e.2.1, 0, none⟩) (e.1.f3.length + 8) e.2.2) ∧ Kd.C Kd.string W (some ⟨e.2.1, 0, none⟩) (e.1.f3.length + 8) (twinL e.1.f3)) := by
  have hC : k31.C W (some ⟨F, 0, none⟩) (n + 8) (L.map (·.1) ++ List.replicate 8 (act0 77)) := by
    obtain ⟨A9, c9, e9, h9, hC9⟩ := Kd.R_reads h.full
    injection e9 with e1 e2 _
    rw [← e1, ← e2] at hC9
    refine acts_C hC9 (by simp) (fun i a f ha hf => ?_)
    by_cases hi : i < L.length
    · rw [List.getElem?_append_left (by simpa using hi), List.getElem?_map, List.getElem?_eq_getElem hi] at ha hf
      cases ha; cases hf
      have ht := h.twins L[i] (List.getElem_mem hi)
      exact ⟨_, _, rfl, Nat.le_trans (Nat.le_add_right _ 8) ht.1, (twin_C ht.2).2⟩
    · rw [List.getElem?_append_right (by simpa using hi)] at ha hf
      have ha' := List.mem_of_getElem? ha
      have hf' := List.mem_of_getElem? hf
      obtain rfl := (List.mem_replicate.1 ha').2
      obtain rfl := (List.mem_replicate.1 hf').2
      exact ⟨none, 0, rfl, Nat.le_refl _, C_nil _⟩
  refine ⟨hC, ?_, ?_⟩
  · have hl8 : (L.map (fun e : S31 × Nat × Nat => e.1) ++ List.replicate 8 (act0 77)).length = n + 8 := by rw [List.length_append, List.length_map, List.length_replicate, h.len]
    have hC' := hC
    rw [← hl8] at hC'
    have h2 := Kd.C_take hC' (m := n) (by rw [hl8]; omega)
    have e : (L.map (·.1) ++ List.replicate 8 (act0 77)).take n = L.map (·.1) := by rw [← h.len]; simp
    rw [e] at h2
    have e2 : (L.map (fun e : S31 × Nat × Nat => e.1)).length = n := by rw [List.length_map]; exact h.len
    rw [e2] at h2
    exact h2
  · obtain ⟨A9, c9, e9, h9, hC9⟩ := Kd.R_reads h.names
    have e2 : (L.map nameC).length = n := by rw [List.length_map]; exact h.len
    rw [e2] at e9 h9 hC9
    refine ⟨A9, c9, e9, h9, fun h0 => ?_⟩
    obtain ⟨ad, e, hc⟩ := hC9.2.2 h0
    refine ⟨ad, e, fun i e he => ⟨?_, (twin_C (h.twins e (List.mem_of_getElem? he)).2).1⟩⟩
    obtain ⟨c, hcl, hcr, hcc⟩ := hc i (nameC e) (by rw [List.getElem?_map, he]; rfl)
    have : c = nameC e := hcr.1
    have hh := hcc 0 _ (by rw [this]; rfl)
    rw [show i * (Kd.raw 1).sz + 0 = i from by show i * 1 + 0 = i; omega] at hh
    exact hh
/-- what left finds, at any time of its run -/
structure LeftOk (W : World) (p0 p1 : Int) (A : Option Addr) (n c : Nat) (w' : World) : Prop where
  below : Below W.heap.size W w'
  box : w'.heap[W.heap.size]? = some (.cells #[.int .i64 p0, .int .i64 p1, .slice A n c] 24 (0, 0))
theorem LeftOk.next {W : World} {p0 p1 : Int} {A : Option Addr} {n c : Nat} {w1 w2 : World} (h : LeftOk W p0 p1 A n c w1) (hb : Below w1.heap.size w1 w2) : LeftOk W p0 p1 A n c w2 :=
  ⟨below_then h.below h.below.size hb, (hb.block _ (blk_lt h.box)).trans h.box⟩
set_option maxHeartbeats 8000000 in
set_option maxRecDepth 100000 in
theorem left_calls (W : World) (base g : Nat) (p0 p1 : Int) (n F cF : Nat) (vN : Value) (L : List (S31 × Nat × Nat)) (h : HandAt W base g p0 p1 n F cF vN L) (hA : ∀ e ∈ L, Aok e.1) (hn : n ≤ 1048576) (A : Option Addr) (c : Nat) (hC : k31.C W A n (L.map (fun e : S31 × Nat × Nat => e.1))) (hc : n ≤ c) : Calls Tryz.prog 13 #[.pointer (some ⟨g, 0, none⟩), .agg #[.int .i64 p0, .int .i64 p1, .slice A n c]] W fun e w' => e = .returned (.bool true) ∧ Below W.heap.size W w' := by
  obtain ⟨r1, r2, AN, cN, rfl, hcN, r3⟩ := h.reads
  have hbk := h.blk
  have hlen := h.len
  have hroom := h.room
  obtain ⟨aF, haF⟩ : ∃ aF : Addr, (⟨F, 0, none⟩ : Addr) = aF := ⟨_, rfl⟩
  rw [haF] at r1 r2 hbk
  obtain ⟨M, hM⟩ : ∃ M, M = n + 8 := ⟨_, rfl⟩
  rw [← hM] at r1 hbk hroom
  have HF : Aside0 (∀ w', LeftOk W p0 p1 A n c w' → w'.heap[g]? = some (.cells #[.int .i64 p0, .int .i64 p1, .slice (some aF) n cF, .slice (some aF) M cF, .slice AN n cN] 37 (0, 0)) ∧ w'.heap[W.heap.size]? = some (.cells #[.int .i64 p0, .int .i64 p1, .slice A n c] 24 (0, 0)) ∧ k31.C w' (some aF) M (L.map (fun e : S31 × Nat × Nat => e.1) ++ List.replicate 8 (act0 77)) ∧ k31.C w' (some aF) n (L.map (fun e : S31 × Nat × Nat => e.1)) ∧ k31.C w' A n (L.map (fun e : S31 × Nat × Nat => e.1)) ∧ (0 < n → ∃ ad, AN = some ad ∧ ∀ i e, L[i]? = some e → w'.cell? (ad.add i) = some (.slice (some ⟨e.2.1, 0, none⟩) (e.1.f3.length + 8) e.2.2) ∧ Kd.C Kd.string w' (some ⟨e.2.1, 0, none⟩) (e.1.f3.length + 8) (twinL e.1.f3))) := ⟨fun w' hw => by
    refine ⟨(hw.below.block _ (blk_lt hbk)).trans hbk, hw.box, Kd.C_below r1 hw.below, Kd.C_below r2 hw.below, Kd.C_below hC hw.below, fun h0 => ?_⟩
    obtain ⟨ad, e, h1⟩ := r3 h0
    exact ⟨ad, e, fun i e he => ⟨pw_cell_below hw.below (h1 i e he).1, Kd.C_below (h1 i e he).2 hw.below⟩⟩⟩
  have HLE := Aside0.mk hlen
  have HAE := Aside0.mk hA
  have HNN := Aside0.mk (And.intro hn (And.intro hc (And.intro hroom hcN)))
  have HWM : Aside0 (wrap64 ((n : Int) + 8) = (M : Int)) := ⟨by unfold wrap64; omega⟩
  have HMM := Aside0.mk hM
  have HOK : Aside0 (LeftOk W p0 p1 A n c (W.alloc (.cells #[.int .i64 p0, .int .i64 p1, .slice A n c] 24 (0, 0)))) := ⟨⟨below_alloc (Below.refl _ _) _, blk_new W _⟩⟩
  have HSP : Aside0 (∀ w', LeftOk W p0 p1 A n c w' → Calls Tryz.prog 18 #[.agg #[.int .i64 p0, .int .i64 p1, .slice (some aF) n cF], .agg #[.int .i64 p0, .int .i64 p1, .slice A n c]] w' fun e w2 => e = .returned (.bool true) ∧ Below w'.heap.size w' w2) := ⟨fun w' hw => by
    have hl : (L.map (fun e : S31 × Nat × Nat => e.1)).length = n := by rw [List.length_map]; exact hlen
    have hx := samePlay_calls p0 p1 p0 p1 (L.map (fun e : S31 × Nat × Nat => e.1)) (L.map (fun e : S31 × Nat × Nat => e.1)) (some aF) A cF c w' (by rw [hl]; exact (HF.out w' hw).2.2.2.1) (by rw [hl]; omega) (by rw [hl]; exact (HF.out w' hw).2.2.2.2.1) (by rw [hl]; exact hc) (by rw [hl]; omega) (fun a ha => by
      obtain ⟨e, he, rfl⟩ := List.mem_map.1 ha
      exact (hA e he).count)
    rw [hl] at hx
    refine hx.mono ?_
    rintro e w2 ⟨rfl, hb⟩
    exact ⟨by simp [sameP], hb⟩⟩
  clear h r1 r2 r3 hbk hlen hroom hcN hA hC haF hM
  go_enter Tryz.func13, Tryz.ntmps13
  go_wp2_with fail
  refine region_facts (ws := []) (G := fun _ w' => Aside0 (LeftOk W p0 p1 A n c w')) (φs := [Fact.eq (.pointer (some ⟨g, 0, none⟩)), Fact.eq (.pointer (some ⟨g, 0, none⟩)), Fact.eq (.pointer (some ⟨g, 0, none⟩)), Fact.eq (.agg #[.int .i64 p0, .int .i64 p1, .slice (some aF) n cF]), Fact.eq (.agg #[.int .i64 p0, .int .i64 p1, .slice A n c]), Fact.eq (.bool true), Fact.eq (.bool false), Fact.eq (.bool false), Fact.eq (.pointer (some ⟨g, 0, none⟩)), Fact.eq (.pointer (some ⟨g, 0, none⟩)), Fact.eq (.pointer (some ⟨g, 3, none⟩)), Fact.eq (.slice (some aF) M cF), Fact.eq (.int .i64 (M : Int)), Fact.eq (.pointer (some ⟨W.heap.size, 2, none⟩)), Fact.eq (.slice A n c), Fact.eq (.int .i64 (n : Int)), Fact.eq (.int .i64 (M : Int)), Fact.eq (.bool false), Fact.eq (.bool false)]) (n := 19) (m := 121) (by kernel_rfl) (by kernel_rfl) rfl rfl (by kernel_rfl) (fun _ _ _ h hb => ⟨h.out.next hb⟩) (⟨HOK.out.next (below_drew (Below.refl _ _))⟩) ⟨?oa0, ?oa1, ?oa2, ?oa3, ?oa4, ?oa5, ?oa6, ?oa7, ?oa8, ?oa9, ?oa10, ?oa11, ?oa12, ?oa13, ?oa14, ?oa15, ?oa16, ?oa17, ?oa18, trivial⟩ ?fina
  case oa0 =>
    refine ask_val [.fix 0 _] rfl 9 rfl (.inl rfl) ⟨⟨by kernel_rfl, by conv => lhs; whnf⟩, trivial⟩ ?_
    dsimp only [Has, Fact.eq]
    intro e ρ w' hc hf hg hG h0
    go_simp
    first | done | rfl
  case oa1 =>
    refine ask_val [.op 9 0 (Fact.eq _)] rfl 10 rfl (.inl rfl) ⟨⟨by kernel_rfl, rfl⟩, trivial⟩ ?_
    dsimp only [Has, Fact.eq]
    intro e ρ w' hc hf hg hG h9
    go_simp
    first | done | rfl
  case oa2 =>
    refine ask_val [.op 10 1 (Fact.eq _)] rfl 11 rfl (.inl rfl) ⟨⟨by kernel_rfl, rfl⟩, trivial⟩ ?_
    dsimp only [Has, Fact.eq]
    intro e ρ w' hc hf hg hG h10
    go_simp
    first | done | rfl
  case oa3 =>
    refine ask_step [.op 11 2 (Fact.eq _)] rfl 12 rfl (.inl rfl) ⟨⟨by kernel_rfl, rfl⟩, trivial⟩ 0 0 (by kernel_rfl) ?_
    dsimp only [Has, Fact.eq]
    intro e ρ w' hp hq hc hf hg hG h11
    have hkc := (HF.out w' hG.out).1
    have c0 : w'.cell? ⟨g, 0, none⟩ = some (.int .i64 p0) := by rw [blk_cell hkc]; rfl
    have c1 : w'.cell? ⟨g, 1, none⟩ = some (.int .i64 p1) := by rw [blk_cell hkc]; rfl
    have c2 : w'.cell? ⟨g, 2, none⟩ = some (.slice (some aF) n cF) := by rw [blk_cell hkc]; rfl
    refine ⟨_, w', ?_, rfl, Below.refl _ _⟩
    go_simp
    first | done | rfl
  case oa4 =>
    refine ask_step [.fix 3 _] rfl 13 rfl (.inl rfl) ⟨⟨by kernel_rfl, by conv => lhs; whnf⟩, trivial⟩ 0 0 (by kernel_rfl) ?_
    dsimp only [Has, Fact.eq]
    intro e ρ w' hp hq hc hf hg hG h3
    have hkd := (HF.out w' hG.out).2.1
    have d0 : w'.cell? ⟨W.heap.size, 0, none⟩ = some (.int .i64 p0) := by rw [blk_cell hkd]; rfl
    have d1 : w'.cell? ⟨W.heap.size, 1, none⟩ = some (.int .i64 p1) := by rw [blk_cell hkd]; rfl
    have d2 : w'.cell? ⟨W.heap.size, 2, none⟩ = some (.slice A n c) := by rw [blk_cell hkd]; rfl
    refine ⟨_, w', ?_, rfl, Below.refl _ _⟩
    go_simp
    first | done | rfl
  case oa5 =>
    refine ask_call [.op 12 3 (Fact.eq _), .op 13 4 (Fact.eq _)] rfl 14 rfl (.inl rfl) ⟨⟨by kernel_rfl, rfl⟩, ⟨by kernel_rfl, rfl⟩, trivial⟩ 0 0 (by kernel_rfl) 18 Tryz.func18 (by kernel_rfl) rfl rfl ?_
    dsimp only [Has, Fact.eq]
    intro e ρ w' hp hq hc hf hg hG h12 h13
    refine ⟨#[.agg #[.int .i64 p0, .int .i64 p1, .slice (some aF) n cF], .agg #[.int .i64 p0, .int .i64 p1, .slice A n c]], by simp only [List.map_toArray, List.map_cons, List.map_nil, h12, h13], (HSP.out w' hG.out).mono ?_⟩
    rintro en w2 ⟨rfl, hb⟩
    exact ⟨_, rfl, rfl, hb⟩
  case oa6 =>
    refine ask_val [.op 14 5 (Fact.eq _)] rfl 15 rfl (.inl rfl) ⟨⟨by kernel_rfl, rfl⟩, trivial⟩ ?_
    dsimp only [Has, Fact.eq]
    intro e ρ w' hc hf hg hG h14
    go_simp
    first | done | rfl
  case oa7 =>
    refine ask_val [.op 15 6 (Fact.eq _)] rfl 16 rfl (.inl rfl) ⟨⟨by kernel_rfl, rfl⟩, trivial⟩ ?_
    dsimp only [Has, Fact.eq]
    intro e ρ w' hc hf hg hG h15
    go_simp
    first | done | rfl
  case oa8 =>
    refine ask_val [.fix 0 _] rfl 17 rfl (.inr ⟨7, false, rfl, by kernel_rfl, rfl⟩) ⟨⟨by kernel_rfl, by conv => lhs; whnf⟩, trivial⟩ ?_
    dsimp only [Has, Fact.eq]
    intro e ρ w' hc hf hg hG h0
    go_simp
    first | done | rfl
  case oa9 =>
    refine ask_val [.op 17 8 (Fact.eq _)] rfl 18 rfl (.inr ⟨7, false, rfl, by kernel_rfl, rfl⟩) ⟨⟨by kernel_rfl, rfl⟩, trivial⟩ ?_
    dsimp only [Has, Fact.eq]
    intro e ρ w' hc hf hg hG h17
    go_simp
    first | done | rfl
  case oa10 =>
    refine ask_val [.op 18 9 (Fact.eq _)] rfl 19 rfl (.inr ⟨7, false, rfl, by kernel_rfl, rfl⟩) ⟨⟨by kernel_rfl, rfl⟩, trivial⟩ ?_
    dsimp only [Has, Fact.eq]
    intro e ρ w' hc hf hg hG h18
    go_simp
    first | done | rfl
  case oa11 =>
    refine ask_step [.op 19 10 (Fact.eq _)] rfl 20 rfl (.inr ⟨7, false, rfl, by kernel_rfl, rfl⟩) ⟨⟨by kernel_rfl, rfl⟩, trivial⟩ 0 0 (by kernel_rfl) ?_
    dsimp only [Has, Fact.eq]
    intro e ρ w' hp hq hc hf hg hG h19
    have hkc := (HF.out w' hG.out).1
    have c3 : w'.cell? ⟨g, 3, none⟩ = some (.slice (some aF) M cF) := by rw [blk_cell hkc]; rfl
    refine ⟨_, w', ?_, rfl, Below.refl _ _⟩
    go_simp
    first | done | rfl
  case oa12 =>
    refine ask_val [.op 20 11 (Fact.eq _)] rfl 21 rfl (.inr ⟨7, false, rfl, by kernel_rfl, rfl⟩) ⟨⟨by kernel_rfl, rfl⟩, trivial⟩ ?_
    dsimp only [Has, Fact.eq]
    intro e ρ w' hc hf hg hG h20
    go_simp
    first | done | rfl
  case oa13 =>
    refine ask_val [.fix 3 _] rfl 22 rfl (.inr ⟨7, false, rfl, by kernel_rfl, rfl⟩) ⟨⟨by kernel_rfl, by conv => lhs; whnf⟩, trivial⟩ ?_
    dsimp only [Has, Fact.eq]
    intro e ρ w' hc hf hg hG h3
    go_simp
    first | done | rfl
  case oa14 =>
    refine ask_step [.op 22 13 (Fact.eq _)] rfl 23 rfl (.inr ⟨7, false, rfl, by kernel_rfl, rfl⟩) ⟨⟨by kernel_rfl, rfl⟩, trivial⟩ 0 0 (by kernel_rfl) ?_
    dsimp only [Has, Fact.eq]
    intro e ρ w' hp hq hc hf hg hG h22
    have hkd := (HF.out w' hG.out).2.1
    have d2 : w'.cell? ⟨W.heap.size, 2, none⟩ = some (.slice A n c) := by rw [blk_cell hkd]; rfl
    refine ⟨_, w', ?_, rfl, Below.refl _ _⟩
    go_simp
    first | done | rfl
  case oa15 =>
    refine ask_val [.op 23 14 (Fact.eq _)] rfl 24 rfl (.inr ⟨7, false, rfl, by kernel_rfl, rfl⟩) ⟨⟨by kernel_rfl, rfl⟩, trivial⟩ ?_
    dsimp only [Has, Fact.eq]
    intro e ρ w' hc hf hg hG h23
    go_simp
    first | done | rfl
  case oa16 =>
    refine ask_val [.op 24 15 (Fact.eq _)] rfl 25 rfl (.inr ⟨7, false, rfl, by kernel_rfl, rfl⟩) ⟨⟨by kernel_rfl, rfl⟩, trivial⟩ ?_
    dsimp only [Has, Fact.eq]
    intro e ρ w' hc hf hg hG h24
    go_simp
    (rw [i64_w, HWM.out])
  case oa17 =>
    refine ask_val [.op 21 12 (Fact.eq _), .op 25 16 (Fact.eq _)] rfl 26 rfl (.inr ⟨7, false, rfl, by kernel_rfl, rfl⟩) ⟨⟨by kernel_rfl, rfl⟩, ⟨by kernel_rfl, rfl⟩, trivial⟩ ?_
    dsimp only [Has, Fact.eq]
    intro e ρ w' hc hf hg hG h21 h25
    go_simp
    first | done | rfl
  case oa18 =>
    refine ask_val [.op 16 7 (Fact.eq _), .op 26 17 (Fact.eq _)] rfl 27 rfl (.inl rfl) ⟨⟨by kernel_rfl, rfl⟩, ⟨by kernel_rfl, rfl⟩, trivial⟩ ?_
    dsimp only [Has, Fact.eq]
    intro e ρ w' hc hf hg hG h16 h26
    go_simp
    first | done | rfl
  case fina =>
    intro w' hG
    refine fin_eq (fin_eq (fin_eq (fin_eq (fin_eq (fin_eq (fin_eq (fin_eq (fin_eq (fin_eq (fin_eq (fin_eq (fin_eq (fin_eq (fin_eq (fin_eq (fin_eq (fin_eq (fin_eq (fin_nil (a' := ?_) ?_ ?_)))))))))))))))))))
    rotate_left
    · simp only [Act.put, List.setIfInBounds_toArray, List.set_cons_zero, List.set_cons_succ]
      rfl
    have HK1 : Aside0 (LeftOk W p0 p1 A n c w') := ⟨hG.out⟩
    have kb2 : w'.cell? ⟨W.heap.size, 2, none⟩ = some (.slice A n c) := by rw [blk_cell hG.out.box]; rfl
    clear hG
    obtain ⟨w1, rfl⟩ : ∃ w1 : World, w1 = w' := ⟨_, rfl⟩
    go_wp2_with fail
    go_loopw [5] (fun v5 wr => ∃ (i : Nat), v5 = .int .i64 (i : Int) ∧ n ≤ i ∧ i ≤ M ∧ Aside0 (LeftOk W p0 p1 A n c wr)) (fun v5 _ => M - (intOf v5).toNat)
    case atStart => exact ⟨n, rfl, Nat.le_refl _, by rw [HMM.out]; exact Nat.le_add_right _ _, HK1⟩
    case round =>
      clear HK1 kb2
      obtain ⟨i, rfl, hni, hi, HL⟩ := hrel
      have kg3 : wr.cell? ⟨g, 3, none⟩ = some (.slice (some aF) M cF) := by rw [blk_cell (HF.out wr HL.out).1]; rfl
      by_cases hlt : i < M
      · have b1 : decide ((i : Int) < (M : Int)) = true := decide_eq_true (by omega)
        have p0' : (0 : Int) ≤ (i : Int) := by omega
        have p1' : (i : Int) < (M : Int) := by omega
        obtain ⟨ad, A3, c3, eA, x0, x1, x2, x3, x4, x5, x6, hx3, hxC⟩ := at_T31 (HF.out wr HL.out).2.2.1 (i : Int) p0' p1'
        cases eA
        rw [Int.toNat_natCast] at x0 x1 x2 x3 x4 x5 x6
        have hX : rd_T31 (L.map (fun e : S31 × Nat × Nat => e.1) ++ List.replicate 8 (act0 77)) (i : Int) = act0 77 := by
          unfold rd_T31
          rw [Int.toNat_natCast, List.getD_eq_getElem?_getD, List.getElem?_append_right (by rw [List.length_map, HLE.out]; exact hni), List.getElem?_replicate, if_pos (by rw [List.length_map, HLE.out]; have := HMM.out; omega)]
          rfl
        rw [hX] at x0 x1 x2 x3 x4 x5 x6 hx3 hxC
        have HXC := Aside0.mk (And.intro hxC hx3)
        have HI1 : Aside0 (n ≤ i + 1 ∧ i + 1 ≤ M) := ⟨by omega⟩
        have hwi : wrap64 ((i : Int) + 1) = (i : Int) + 1 := wrap_next i (by have := HNN.out.1; have := HMM.out; omega)
        have HMS : Aside0 (M - (intOf (Value.int IntKind.i64 ((i : Int) + 1))).toNat < M - (intOf (Value.int IntKind.i64 (i : Int))).toNat) := ⟨meas_step _ _ hlt⟩
        clear hX hxC hx3
        go_wp2_with fail
        refine (sameR_calls (act0 77) (act0 77) A3 none c3 0 wr HXC.out.1 HXC.out.2 (C_nil _) (Nat.le_refl _) (Nat.zero_le _)).mono ?_; rintro e w2 ⟨rfl, hb2⟩
        have HL2 : Aside0 (LeftOk W p0 p1 A n c w2) := ⟨HL.out.next hb2⟩
        rw [show sameA (act0 77) (act0 77) = true from (sameA_iff _ _).2 rfl]
        clear hb2
        go_wp2_with fail
        go_roundw
        case rel => exact ⟨i + 1, by first | rfl | (rw [hwi]; rfl), HI1.out.1, HI1.out.2, HL2⟩
        case measure => first | exact HMS.out | (rw [hwi]; exact HMS.out)
      · have b1 : decide ((i : Int) < (M : Int)) = false := decide_eq_false (by omega)
        have b2 : (i < M) = False := eq_false hlt
        have b3 : decide (i < M) = false := decide_eq_false hlt
        clear hni hi hlt
        go_wp2_with fail
        obtain ⟨wo, rfl⟩ : ∃ wo : World, wo = wr := ⟨_, rfl⟩
        go_loopw [6, 7, 8] (fun v6 v7 v8 wr => ∃ (i : Nat), v6 = .int .i64 (i : Int) ∧ i ≤ n ∧ Aside0 (LeftOk W p0 p1 A n c wr)) (fun v6 _ _ _ => n - (intOf v6).toNat)
        case atStart => exact ⟨0, rfl, Nat.zero_le _, HL⟩
        case round =>
          clear HL kg3 b1 b2 b3
          obtain ⟨i, rfl, hi, HL⟩ := hrel
          have kg4 : wr.cell? ⟨g, 4, none⟩ = some (.slice AN n cN) := by rw [blk_cell (HF.out wr HL.out).1]; rfl
          by_cases hlt : i < n
          · have b1 : decide ((i : Int) < (n : Int)) = true := decide_eq_true (by omega)
            have pi0 : (0 : Int) ≤ (i : Int) := by omega
            have pi1 : (i : Int) < (n : Int) := by omega
            obtain ⟨adA, A3, c3, eA, x0, x1, x2, x3, x4, x5, x6, hx3, hxC⟩ := at_T31 (HF.out wr HL.out).2.2.2.2.1 (i : Int) pi0 pi1
            subst eA
            obtain ⟨adN, eN, hN⟩ := (HF.out wr HL.out).2.2.2.2.2 (by omega)
            subst eN
            have hil : i < L.length := by rw [HLE.out]; exact hlt
            obtain ⟨kN, hTC⟩ := hN i L[i] (List.getElem?_eq_getElem hil)
            have hX : rd_T31 (L.map (fun e : S31 × Nat × Nat => e.1)) (i : Int) = L[i].1 := by
              unfold rd_T31
              rw [Int.toNat_natCast, List.getD_eq_getElem?_getD, List.getElem?_map, List.getElem?_eq_getElem hil]; rfl
            rw [hX] at x3 hx3 hxC
            rw [Int.toNat_natCast] at x3
            have hcnt := (HAE.out L[i] (List.getElem_mem hil)).count
            obtain ⟨X, hXe⟩ : ∃ X, X = L[i].1.f3 := ⟨_, rfl⟩
            obtain ⟨aT, haT⟩ : ∃ aT : Addr, (⟨L[i].2.1, 0, none⟩ : Addr) = aT := ⟨_, rfl⟩
            obtain ⟨cap, hcap⟩ : ∃ cap, cap = L[i].2.2 := ⟨_, rfl⟩
            rw [haT] at kN hTC
            rw [← hXe] at kN hTC x3 hx3 hxC hcnt
            rw [← hcap] at kN
            obtain ⟨m, hm⟩ : ∃ m, m = X.length := ⟨_, rfl⟩
            rw [← hm] at kN hTC x3 hx3 hxC hcnt
            obtain ⟨Mi, hMi⟩ : ∃ Mi, Mi = m + 8 := ⟨_, rfl⟩
            rw [← hMi] at kN hTC
            have HMI := Aside0.mk hMi
            have hwi : wrap64 ((i : Int) + 1) = (i : Int) + 1 := wrap_next i (by have := HNN.out.1; omega)
            have HMS : Aside0 (n - (intOf (Value.int IntKind.i64 ((i : Int) + 1))).toNat < n - (intOf (Value.int IntKind.i64 (i : Int))).toNat) := ⟨meas_step _ _ hlt⟩
            have HI1 : Aside0 (i + 1 ≤ n) := ⟨hlt⟩
            have kb2 : wr.cell? ⟨W.heap.size, 2, none⟩ = some (.slice (some adA) n c) := by rw [blk_cell (HF.out wr HL.out).2.1]; rfl
            have HIN : Aside0 (wr.cell? ⟨g, 4, none⟩ = some (.slice (some adN) n cN) ∧ wr.cell? (adN.add i) = some (.slice (some aT) Mi cap) ∧ wr.cell? ⟨W.heap.size, 2, none⟩ = some (.slice (some adA) n c) ∧ wr.cell? ⟨(adA.add (i * 7)).block, (adA.add (i * 7)).off + 3, none⟩ = some (.slice A3 m c3) ∧ Kd.C Kd.string wr (some aT) Mi (twinL X) ∧ Kd.C Kd.string wr A3 m X ∧ X.length = m) := ⟨kg4, kN, kb2, x3, hTC, hxC, hm.symm⟩
            clear hN hXe haT hcap hm hMi hx3 hxC hTC hX x0 x1 x2 x4 x5 x6
            go_wp2_with fail
            obtain ⟨wi, rfl⟩ : ∃ wi : World, wi = wr := ⟨_, rfl⟩
            clear kg4 kN kb2 x3
            go_loopw [8] (fun v8 wr => ∃ (j : Nat), v8 = .int .i64 (j : Int) ∧ j ≤ Mi ∧ Aside0 (LeftOk W p0 p1 (some adA) n c wr ∧ Below wi.heap.size wi wr)) (fun v8 _ => Mi - (intOf v8).toNat)
            case atStart => exact ⟨0, rfl, Nat.zero_le _, ⟨HL.out, Below.refl _ _⟩⟩
            case round =>
              clear HL
              obtain ⟨j, rfl, hj, HL⟩ := hrel
              have kg4 := pw_cell_below HL.out.2 HIN.out.1
              have kN := pw_cell_below HL.out.2 HIN.out.2.1
              by_cases hjl : j < Mi
              · have b2 : decide ((j : Int) < (Mi : Int)) = true := decide_eq_true (by omega)
                have hwj : wrap64 ((j : Int) + 1) = (j : Int) + 1 := wrap_next j (by have := HMI.out; omega)
                have HMJ : Aside0 (Mi - (intOf (Value.int IntKind.i64 ((j : Int) + 1))).toNat < Mi - (intOf (Value.int IntKind.i64 (j : Int))).toNat) := ⟨meas_step _ _ hjl⟩
                have HJ1 : Aside0 (j + 1 ≤ Mi) := ⟨hjl⟩
                have pj0 : (0 : Int) ≤ (j : Int) := by omega
                have pj1 : (j : Int) < (Mi : Int) := by omega
                have kb2 := pw_cell_below HL.out.2 HIN.out.2.2.1
                have kA := pw_cell_below HL.out.2 HIN.out.2.2.2.1
                obtain ⟨aT', eT, kT⟩ := Kd.at_string (Kd.C_below HIN.out.2.2.2.2.1 HL.out.2) (j : Int) pj0 pj1
                have eT' : aT' = aT := (Option.some.inj eT).symm
                rw [eT'] at kT
                clear eT eT'
                rw [Int.toNat_natCast] at kT
                by_cases hjm : j < m
                · have bjm : decide ((j : Int) < (m : Int)) = true := decide_eq_true (by omega)
                  have bmj : decide ((m : Int) ≤ (j : Int)) = false := decide_eq_false (by omega)
                  have pj2 : (j : Int) < (m : Int) := by omega
                  obtain ⟨ad3, e3, k3⟩ := Kd.at_string (Kd.C_below HIN.out.2.2.2.2.2.1 HL.out.2) (j : Int) pj0 pj2
                  subst e3
                  rw [Int.toNat_natCast] at k3
                  have hsame : rdOf ByteArray.empty (twinL X) (j : Int) = rdOf ByteArray.empty X (j : Int) := by
                    unfold rdOf twinL
                    rw [Int.toNat_natCast, List.getD_eq_getElem?_getD, List.getD_eq_getElem?_getD, List.getElem?_append_left (by rw [HIN.out.2.2.2.2.2.2]; exact hjm)]
                  rw [hsame] at kT
                  obtain ⟨nm, hnm⟩ : ∃ nm, nm = rdOf ByteArray.empty X (j : Int) := ⟨_, rfl⟩
                  rw [← hnm] at kT k3
                  have HLR := Aside0.mk HL.out
                  have HJM := Aside0.mk hjm
                  clear hnm hsame hjm hjl hj
                  go_wp2_with fail
                  refine region_facts (ws := []) (G := fun _ w' => Aside0 (Below wr.heap.size wr w')) (φs := [Fact.eq (.int .i64 (j : Int)), Fact.eq (.int .i64 (m : Int)), Fact.eq (.bool true), Fact.eq (.bool true), Fact.eq (.pointer (some ⟨g, 0, none⟩)), Fact.eq (.pointer (some ⟨g, 0, none⟩)), Fact.eq (.pointer (some ⟨g, 4, none⟩)), Fact.eq (.slice (some adN) n cN), Fact.eq (.int .i64 (i : Int)), Fact.eq (.pointer (some (adN.add i))), Fact.eq (.slice (some aT) Mi cap), Fact.eq (.int .i64 (j : Int)), Fact.eq (.pointer (some (aT.add j))), Fact.eq (.string nm), Fact.eq (.pointer (some ⟨W.heap.size, 2, none⟩)), Fact.eq (.slice (some adA) n c), Fact.eq (.int .i64 (i : Int)), Fact.eq (.pointer (some (adA.add (i * 7)))), Fact.eq (.pointer (some ⟨(adA.add (i * 7)).block, (adA.add (i * 7)).off + 3, none⟩)), Fact.eq (.slice (some ad3) m c3), Fact.eq (.int .i64 (j : Int)), Fact.eq (.pointer (some (ad3.add j))), Fact.eq (.string nm), Fact.eq (.bool false), Fact.eq (.bool false), Fact.eq (.bool false), Fact.eq (.int .i64 (j : Int)), Fact.eq (.int .i64 (m : Int)), Fact.eq (.bool false), Fact.eq (.bool false), Fact.eq undef, Fact.eq undef, Fact.eq undef, Fact.eq undef, Fact.eq undef, Fact.eq undef, Fact.eq undef, Fact.eq undef, Fact.eq undef, Fact.eq undef, Fact.eq undef, Fact.eq (.bool false), Fact.eq (.bool false)]) (n := 43) (m := 121) (by kernel_rfl) (by kernel_rfl) rfl rfl (by kernel_rfl) (fun _ _ _ h hb => ⟨below_then h.out h.out.size hb⟩) (⟨below_drew (Below.refl _ _)⟩) ⟨?ob0, ?ob1, ?ob2, ?ob3, ?ob4, ?ob5, ?ob6, ?ob7, ?ob8, ?ob9, ?ob10, ?ob11, ?ob12, ?ob13, ?ob14, ?ob15, ?ob16, ?ob17, ?ob18, ?ob19, ?ob20, ?ob21, ?ob22, ?ob23, ?ob24, ?ob25, ?ob26, ?ob27, ?ob28, ?ob29, ?ob30, ?ob31, ?ob32, ?ob33, ?ob34, ?ob35, ?ob36, ?ob37, ?ob38, ?ob39, ?ob40, ?ob41, ?ob42, trivial⟩ ?finb
                  case ob0 =>
                    refine ask_val [.fix 8 _] rfl 78 rfl (.inl rfl) ⟨⟨by kernel_rfl, by conv => lhs; whnf⟩, trivial⟩ ?_
                    dsimp only [Has, Fact.eq]
                    intro e ρ w' hc hf hg hG h8
                    go_simp
                    first | done | rfl
                  case ob1 =>
                    refine ask_val [.fix 7 _] rfl 79 rfl (.inl rfl) ⟨⟨by kernel_rfl, by conv => lhs; whnf⟩, trivial⟩ ?_
                    dsimp only [Has, Fact.eq]
                    intro e ρ w' hc hf hg hG h7
                    go_simp
                    first | done | rfl
                  case ob2 =>
                    refine ask_val [.op 78 0 (Fact.eq _), .op 79 1 (Fact.eq _)] rfl 80 rfl (.inl rfl) ⟨⟨by kernel_rfl, rfl⟩, ⟨by kernel_rfl, rfl⟩, trivial⟩ ?_
                    dsimp only [Has, Fact.eq]
                    intro e ρ w' hc hf hg hG h78 h79
                    have y0 := bjm
                    go_simp
                    first | done | rfl | exact HJM.out
                  case ob3 =>
                    refine ask_val [.op 80 2 (Fact.eq _)] rfl 81 rfl (.inl rfl) ⟨⟨by kernel_rfl, rfl⟩, trivial⟩ ?_
                    dsimp only [Has, Fact.eq]
                    intro e ρ w' hc hf hg hG h80
                    go_simp
                    first | done | rfl
                  case ob4 =>
                    refine ask_val [.fix 0 _] rfl 82 rfl (.inr ⟨3, true, rfl, by kernel_rfl, rfl⟩) ⟨⟨by kernel_rfl, by conv => lhs; whnf⟩, trivial⟩ ?_
                    dsimp only [Has, Fact.eq]
                    intro e ρ w' hc hf hg hG h0
                    go_simp
                    first | done | rfl
                  case ob5 =>
                    refine ask_val [.op 82 4 (Fact.eq _)] rfl 83 rfl (.inr ⟨3, true, rfl, by kernel_rfl, rfl⟩) ⟨⟨by kernel_rfl, rfl⟩, trivial⟩ ?_
                    dsimp only [Has, Fact.eq]
                    intro e ρ w' hc hf hg hG h82
                    go_simp
                    first | done | rfl
                  case ob6 =>
                    refine ask_val [.op 83 5 (Fact.eq _)] rfl 84 rfl (.inr ⟨3, true, rfl, by kernel_rfl, rfl⟩) ⟨⟨by kernel_rfl, rfl⟩, trivial⟩ ?_
                    dsimp only [Has, Fact.eq]
                    intro e ρ w' hc hf hg hG h83
                    go_simp
                    first | done | rfl
                  case ob7 =>
                    refine ask_step [.op 84 6 (Fact.eq _)] rfl 85 rfl (.inr ⟨3, true, rfl, by kernel_rfl, rfl⟩) ⟨⟨by kernel_rfl, rfl⟩, trivial⟩ 0 0 (by kernel_rfl) ?_
                    dsimp only [Has, Fact.eq]
                    intro e ρ w' hp hq hc hf hg hG h84
                    have q0 := pw_cell_below hG.out kg4
                    refine ⟨_, w', ?_, rfl, Below.refl _ _⟩
                    go_simp
                    first | done | rfl
                  case ob8 =>
                    refine ask_val [.fix 6 _] rfl 86 rfl (.inr ⟨3, true, rfl, by kernel_rfl, rfl⟩) ⟨⟨by kernel_rfl, by conv => lhs; whnf⟩, trivial⟩ ?_
                    dsimp only [Has, Fact.eq]
                    intro e ρ w' hc hf hg hG h6
                    go_simp
                    first | done | rfl
                  case ob9 =>
                    refine ask_val [.op 85 7 (Fact.eq _), .op 86 8 (Fact.eq _)] rfl 87 rfl (.inr ⟨3, true, rfl, by kernel_rfl, rfl⟩) ⟨⟨by kernel_rfl, rfl⟩, ⟨by kernel_rfl, rfl⟩, trivial⟩ ?_
                    dsimp only [Has, Fact.eq]
                    intro e ρ w' hc hf hg hG h85 h86
                    have y0 := pi0
                    have y1 := pi1
                    go_simp
                    first | done | rfl | exact HJM.out
                  case ob10 =>
                    refine ask_step [.op 87 9 (Fact.eq _)] rfl 88 rfl (.inr ⟨3, true, rfl, by kernel_rfl, rfl⟩) ⟨⟨by kernel_rfl, rfl⟩, trivial⟩ 0 0 (by kernel_rfl) ?_
                    dsimp only [Has, Fact.eq]
                    intro e ρ w' hp hq hc hf hg hG h87
                    have q0 := pw_cell_below hG.out kN
                    refine ⟨_, w', ?_, rfl, Below.refl _ _⟩
                    go_simp
                    first | done | rfl
                  case ob11 =>
                    refine ask_val [.fix 8 _] rfl 89 rfl (.inr ⟨3, true, rfl, by kernel_rfl, rfl⟩) ⟨⟨by kernel_rfl, by conv => lhs; whnf⟩, trivial⟩ ?_
                    dsimp only [Has, Fact.eq]
                    intro e ρ w' hc hf hg hG h8
                    go_simp
                    first | done | rfl
                  case ob12 =>
                    refine ask_val [.op 88 10 (Fact.eq _), .op 89 11 (Fact.eq _)] rfl 90 rfl (.inr ⟨3, true, rfl, by kernel_rfl, rfl⟩) ⟨⟨by kernel_rfl, rfl⟩, ⟨by kernel_rfl, rfl⟩, trivial⟩ ?_
                    dsimp only [Has, Fact.eq]
                    intro e ρ w' hc hf hg hG h88 h89
                    have y0 := pj0
                    have y1 := pj1
                    go_simp
                    first | done | rfl | exact HJM.out
                  case ob13 =>
                    refine ask_step [.op 90 12 (Fact.eq _)] rfl 91 rfl (.inr ⟨3, true, rfl, by kernel_rfl, rfl⟩) ⟨⟨by kernel_rfl, rfl⟩, trivial⟩ 0 0 (by kernel_rfl) ?_
                    dsimp only [Has, Fact.eq]
                    intro e ρ w' hp hq hc hf hg hG h90
                    have q0 := pw_cell_below hG.out kT
                    refine ⟨_, w', ?_, rfl, Below.refl _ _⟩
                    go_simp
                    first | done | rfl
                  case ob14 =>
                    refine ask_val [.fix 3 _] rfl 92 rfl (.inr ⟨3, true, rfl, by kernel_rfl, rfl⟩) ⟨⟨by kernel_rfl, by conv => lhs; whnf⟩, trivial⟩ ?_
                    dsimp only [Has, Fact.eq]
                    intro e ρ w' hc hf hg hG h3
                    go_simp
                    first | done | rfl
                  case ob15 =>
                    refine ask_step [.op 92 14 (Fact.eq _)] rfl 93 rfl (.inr ⟨3, true, rfl, by kernel_rfl, rfl⟩) ⟨⟨by kernel_rfl, rfl⟩, trivial⟩ 0 0 (by kernel_rfl) ?_
                    dsimp only [Has, Fact.eq]
                    intro e ρ w' hp hq hc hf hg hG h92
                    have q0 := pw_cell_below hG.out kb2
                    refine ⟨_, w', ?_, rfl, Below.refl _ _⟩
                    go_simp
                    first | done | rfl
                  case ob16 =>
                    refine ask_val [.fix 6 _] rfl 94 rfl (.inr ⟨3, true, rfl, by kernel_rfl, rfl⟩) ⟨⟨by kernel_rfl, by conv => lhs; whnf⟩, trivial⟩ ?_
                    dsimp only [Has, Fact.eq]
                    intro e ρ w' hc hf hg hG h6
                    go_simp
                    first | done | rfl
                  case ob17 =>
                    refine ask_val [.op 93 15 (Fact.eq _), .op 94 16 (Fact.eq _)] rfl 95 rfl (.inr ⟨3, true, rfl, by kernel_rfl, rfl⟩) ⟨⟨by kernel_rfl, rfl⟩, ⟨by kernel_rfl, rfl⟩, trivial⟩ ?_
                    dsimp only [Has, Fact.eq]
                    intro e ρ w' hc hf hg hG h93 h94
                    have y0 := pi0
                    have y1 := pi1
                    go_simp
                    first | done | rfl | exact HJM.out
                  case ob18 =>
                    refine ask_val [.op 95 17 (Fact.eq _)] rfl 96 rfl (.inr ⟨3, true, rfl, by kernel_rfl, rfl⟩) ⟨⟨by kernel_rfl, rfl⟩, trivial⟩ ?_
                    dsimp only [Has, Fact.eq]
                    intro e ρ w' hc hf hg hG h95
                    go_simp
                    first | done | rfl
                  case ob19 =>
                    refine ask_step [.op 96 18 (Fact.eq _)] rfl 97 rfl (.inr ⟨3, true, rfl, by kernel_rfl, rfl⟩) ⟨⟨by kernel_rfl, rfl⟩, trivial⟩ 0 0 (by kernel_rfl) ?_
                    dsimp only [Has, Fact.eq]
                    intro e ρ w' hp hq hc hf hg hG h96
                    have q0 := pw_cell_below hG.out kA
                    refine ⟨_, w', ?_, rfl, Below.refl _ _⟩
                    go_simp
                    first | done | rfl
                  case ob20 =>
                    refine ask_val [.fix 8 _] rfl 98 rfl (.inr ⟨3, true, rfl, by kernel_rfl, rfl⟩) ⟨⟨by kernel_rfl, by conv => lhs; whnf⟩, trivial⟩ ?_
                    dsimp only [Has, Fact.eq]
                    intro e ρ w' hc hf hg hG h8
                    go_simp
                    first | done | rfl
                  case ob21 =>
                    refine ask_val [.op 97 19 (Fact.eq _), .op 98 20 (Fact.eq _)] rfl 99 rfl (.inr ⟨3, true, rfl, by kernel_rfl, rfl⟩) ⟨⟨by kernel_rfl, rfl⟩, ⟨by kernel_rfl, rfl⟩, trivial⟩ ?_
                    dsimp only [Has, Fact.eq]
                    intro e ρ w' hc hf hg hG h97 h98
                    have y0 := pj0
                    have y1 := pj2
                    go_simp
                    first | done | rfl | exact HJM.out
                  case ob22 =>
                    refine ask_step [.op 99 21 (Fact.eq _)] rfl 100 rfl (.inr ⟨3, true, rfl, by kernel_rfl, rfl⟩) ⟨⟨by kernel_rfl, rfl⟩, trivial⟩ 0 0 (by kernel_rfl) ?_
                    dsimp only [Has, Fact.eq]
                    intro e ρ w' hp hq hc hf hg hG h99
                    have q0 := pw_cell_below hG.out k3
                    refine ⟨_, w', ?_, rfl, Below.refl _ _⟩
                    go_simp
                    first | done | rfl
                  case ob23 =>
                    refine ask_val [.op 91 13 (Fact.eq _), .op 100 22 (Fact.eq _)] rfl 101 rfl (.inr ⟨3, true, rfl, by kernel_rfl, rfl⟩) ⟨⟨by kernel_rfl, rfl⟩, ⟨by kernel_rfl, rfl⟩, trivial⟩ ?_
                    dsimp only [Has, Fact.eq]
                    intro e ρ w' hc hf hg hG h91 h100
                    go_simp
                    first | done | rfl
                  case ob24 =>
                    refine ask_val [.op 81 3 (Fact.eq _), .op 101 23 (Fact.eq _)] rfl 102 rfl (.inl rfl) ⟨⟨by kernel_rfl, rfl⟩, ⟨by kernel_rfl, rfl⟩, trivial⟩ ?_
                    dsimp only [Has, Fact.eq]
                    intro e ρ w' hc hf hg hG h81 h101
                    go_simp
                    first | done | rfl
                  case ob25 =>
                    refine ask_val [.op 102 24 (Fact.eq _)] rfl 103 rfl (.inl rfl) ⟨⟨by kernel_rfl, rfl⟩, trivial⟩ ?_
                    dsimp only [Has, Fact.eq]
                    intro e ρ w' hc hf hg hG h102
                    go_simp
                    first | done | rfl
                  case ob26 =>
                    refine ask_val [.fix 8 _] rfl 104 rfl (.inr ⟨25, false, rfl, by kernel_rfl, rfl⟩) ⟨⟨by kernel_rfl, by conv => lhs; whnf⟩, trivial⟩ ?_
                    dsimp only [Has, Fact.eq]
                    intro e ρ w' hc hf hg hG h8
                    go_simp
                    first | done | rfl
                  case ob27 =>
                    refine ask_val [.fix 7 _] rfl 105 rfl (.inr ⟨25, false, rfl, by kernel_rfl, rfl⟩) ⟨⟨by kernel_rfl, by conv => lhs; whnf⟩, trivial⟩ ?_
                    dsimp only [Has, Fact.eq]
                    intro e ρ w' hc hf hg hG h7
                    go_simp
                    first | done | rfl
                  case ob28 =>
                    refine ask_val [.op 104 26 (Fact.eq _), .op 105 27 (Fact.eq _)] rfl 106 rfl (.inr ⟨25, false, rfl, by kernel_rfl, rfl⟩) ⟨⟨by kernel_rfl, rfl⟩, ⟨by kernel_rfl, rfl⟩, trivial⟩ ?_
                    dsimp only [Has, Fact.eq]
                    intro e ρ w' hc hf hg hG h104 h105
                    have y0 := bmj
                    go_simp
                    first | done | rfl | exact HJM.out
                  case ob29 =>
                    refine ask_val [.op 106 28 (Fact.eq _)] rfl 107 rfl (.inr ⟨25, false, rfl, by kernel_rfl, rfl⟩) ⟨⟨by kernel_rfl, rfl⟩, trivial⟩ ?_
                    dsimp only [Has, Fact.eq]
                    intro e ρ w' hc hf hg hG h106
                    go_simp
                    first | done | rfl
                  case ob30 =>
                    exact ask_off rfl ⟨29, false, rfl, by kernel_rfl, rfl⟩
                  case ob31 =>
                    exact ask_off rfl ⟨29, false, rfl, by kernel_rfl, rfl⟩
                  case ob32 =>
                    exact ask_off rfl ⟨29, false, rfl, by kernel_rfl, rfl⟩
                  case ob33 =>
                    exact ask_off rfl ⟨29, false, rfl, by kernel_rfl, rfl⟩
                  case ob34 =>
                    exact ask_off rfl ⟨29, false, rfl, by kernel_rfl, rfl⟩
                  case ob35 =>
                    exact ask_off rfl ⟨29, false, rfl, by kernel_rfl, rfl⟩
                  case ob36 =>
                    exact ask_off rfl ⟨29, false, rfl, by kernel_rfl, rfl⟩
                  case ob37 =>
                    exact ask_off rfl ⟨29, false, rfl, by kernel_rfl, rfl⟩
                  case ob38 =>
                    exact ask_off rfl ⟨29, false, rfl, by kernel_rfl, rfl⟩
                  case ob39 =>
                    exact ask_off rfl ⟨29, false, rfl, by kernel_rfl, rfl⟩
                  case ob40 =>
                    exact ask_off rfl ⟨29, false, rfl, by kernel_rfl, rfl⟩
                  case ob41 =>
                    refine ask_val [.op 107 29 (Fact.eq _), .op 118 40 (Fact.eq _)] rfl 119 rfl (.inr ⟨25, false, rfl, by kernel_rfl, rfl⟩) ⟨⟨by kernel_rfl, rfl⟩, ⟨by kernel_rfl, rfl⟩, trivial⟩ ?_
                    dsimp only [Has, Fact.eq]
                    intro e ρ w' hc hf hg hG h107 h118
                    go_simp
                    first | done | rfl
                  case ob42 =>
                    refine ask_val [.op 103 25 (Fact.eq _), .op 119 41 (Fact.eq _)] rfl 120 rfl (.inl rfl) ⟨⟨by kernel_rfl, rfl⟩, ⟨by kernel_rfl, rfl⟩, trivial⟩ ?_
                    dsimp only [Has, Fact.eq]
                    intro e ρ w' hc hf hg hG h103 h119
                    go_simp
                    first | done | rfl
                  case finb =>
                    intro w' hG
                    refine fin_eq (fin_eq (fin_eq (fin_eq (fin_eq (fin_eq (fin_eq (fin_eq (fin_eq (fin_eq (fin_eq (fin_eq (fin_eq (fin_eq (fin_eq (fin_eq (fin_eq (fin_eq (fin_eq (fin_eq (fin_eq (fin_eq (fin_eq (fin_eq (fin_eq (fin_eq (fin_eq (fin_eq (fin_eq (fin_eq (fin_eq (fin_eq (fin_eq (fin_eq (fin_eq (fin_eq (fin_eq (fin_eq (fin_eq (fin_eq (fin_eq (fin_eq (fin_eq (fin_nil (a' := ?_) ?_ ?_)))))))))))))))))))))))))))))))))))))))))))
                    rotate_left
                    · simp only [Act.put, List.setIfInBounds_toArray, List.set_cons_zero, List.set_cons_succ]
                      rfl
                    have HK2 : Aside0 (LeftOk W p0 p1 (some adA) n c w' ∧ Below wi.heap.size wi w') := ⟨HLR.out.1.next hG.out, below_then HLR.out.2 HLR.out.2.size hG.out⟩
                    clear hG
                    go_wp2_with fail
                    go_roundw
                    case rel => exact ⟨j + 1, by first | rfl | (rw [hwj]; rfl), HJ1.out, HK2⟩
                    case measure => first | exact HMJ.out | (rw [hwj]; exact HMJ.out)
                · have bjm : decide ((j : Int) < (m : Int)) = false := decide_eq_false (by omega)
                  have bmj : decide ((m : Int) ≤ (j : Int)) = true := decide_eq_true (by omega)
                  have hmk : rdOf ByteArray.empty (twinL X) (j : Int) = markB := by
                    unfold rdOf twinL
                    rw [Int.toNat_natCast, List.getD_eq_getElem?_getD, List.getElem?_append_right (by rw [HIN.out.2.2.2.2.2.2]; omega), List.getElem?_replicate, if_pos (by rw [HIN.out.2.2.2.2.2.2]; have := HMI.out; omega)]
                    rfl
                  rw [hmk] at kT
                  have HLR := Aside0.mk HL.out
                  have HJM : Aside0 (m ≤ j) := ⟨by omega⟩
                  clear hmk hjm hjl hj
                  go_wp2_with fail
                  refine region_facts (ws := []) (G := fun _ w' => Aside0 (Below wr.heap.size wr w')) (φs := [Fact.eq (.int .i64 (j : Int)), Fact.eq (.int .i64 (m : Int)), Fact.eq (.bool false), Fact.eq (.bool false), Fact.eq undef, Fact.eq undef, Fact.eq undef, Fact.eq undef, Fact.eq undef, Fact.eq undef, Fact.eq undef, Fact.eq undef, Fact.eq undef, Fact.eq undef, Fact.eq undef, Fact.eq undef, Fact.eq undef, Fact.eq undef, Fact.eq undef, Fact.eq undef, Fact.eq undef, Fact.eq undef, Fact.eq undef, Fact.eq undef, Fact.eq (.bool false), Fact.eq (.bool false), Fact.eq (.int .i64 (j : Int)), Fact.eq (.int .i64 (m : Int)), Fact.eq (.bool true), Fact.eq (.bool true), Fact.eq (.pointer (some ⟨g, 0, none⟩)), Fact.eq (.pointer (some ⟨g, 0, none⟩)), Fact.eq (.pointer (some ⟨g, 4, none⟩)), Fact.eq (.slice (some adN) n cN), Fact.eq (.int .i64 (i : Int)), Fact.eq (.pointer (some (adN.add i))), Fact.eq (.slice (some aT) Mi cap), Fact.eq (.int .i64 (j : Int)), Fact.eq (.pointer (some (aT.add j))), Fact.eq (.string markB), Fact.eq (.bool false), Fact.eq (.bool false), Fact.eq (.bool false)]) (n := 43) (m := 121) (by kernel_rfl) (by kernel_rfl) rfl rfl (by kernel_rfl) (fun _ _ _ h hb => ⟨below_then h.out h.out.size hb⟩) (⟨below_drew (Below.refl _ _)⟩) ⟨?oc0, ?oc1, ?oc2, ?oc3, ?oc4, ?oc5, ?oc6, ?oc7, ?oc8, ?oc9, ?oc10, ?oc11, ?oc12, ?oc13, ?oc14, ?oc15, ?oc16, ?oc17, ?oc18, ?oc19, ?oc20, ?oc21, ?oc22, ?oc23, ?oc24, ?oc25, ?oc26, ?oc27, ?oc28, ?oc29, ?oc30, ?oc31, ?oc32, ?oc33, ?oc34, ?oc35, ?oc36, ?oc37, ?oc38, ?oc39, ?oc40, ?oc41, ?oc42, trivial⟩ ?finc
                  case oc0 =>
                    refine ask_val [.fix 8 _] rfl 78 rfl (.inl rfl) ⟨⟨by kernel_rfl, by conv => lhs; whnf⟩, trivial⟩ ?_
                    dsimp only [Has, Fact.eq]
                    intro e ρ w' hc hf hg hG h8
                    go_simp
                    first | done | rfl
                  case oc1 =>
                    refine ask_val [.fix 7 _] rfl 79 rfl (.inl rfl) ⟨⟨by kernel_rfl, by conv => lhs; whnf⟩, trivial⟩ ?_
                    dsimp only [Has, Fact.eq]
                    intro e ρ w' hc hf hg hG h7
                    go_simp
                    first | done | rfl
                  case oc2 =>
                    refine ask_val [.op 78 0 (Fact.eq _), .op 79 1 (Fact.eq _)] rfl 80 rfl (.inl rfl) ⟨⟨by kernel_rfl, rfl⟩, ⟨by kernel_rfl, rfl⟩, trivial⟩ ?_
                    dsimp only [Has, Fact.eq]
                    intro e ρ w' hc hf hg hG h78 h79
                    have y0 := bjm
                    go_simp
                    first | done | rfl | exact HJM.out
                  case oc3 =>
                    refine ask_val [.op 80 2 (Fact.eq _)] rfl 81 rfl (.inl rfl) ⟨⟨by kernel_rfl, rfl⟩, trivial⟩ ?_
                    dsimp only [Has, Fact.eq]
                    intro e ρ w' hc hf hg hG h80
                    go_simp
                    first | done | rfl
                  case oc4 =>
                    exact ask_off rfl ⟨3, false, rfl, by kernel_rfl, rfl⟩
                  case oc5 =>
                    exact ask_off rfl ⟨3, false, rfl, by kernel_rfl, rfl⟩
                  case oc6 =>
                    exact ask_off rfl ⟨3, false, rfl, by kernel_rfl, rfl⟩
                  case oc7 =>
                    exact ask_off rfl ⟨3, false, rfl, by kernel_rfl, rfl⟩
                  case oc8 =>
                    exact ask_off rfl ⟨3, false, rfl, by kernel_rfl, rfl⟩
                  case oc9 =>
                    exact ask_off rfl ⟨3, false, rfl, by kernel_rfl, rfl⟩
                  case oc10 =>
                    exact ask_off rfl ⟨3, false, rfl, by kernel_rfl, rfl⟩
                  case oc11 =>
                    exact ask_off rfl ⟨3, false, rfl, by kernel_rfl, rfl⟩
                  case oc12 =>
                    exact ask_off rfl ⟨3, false, rfl, by kernel_rfl, rfl⟩
                  case oc13 =>
                    exact ask_off rfl ⟨3, false, rfl, by kernel_rfl, rfl⟩
                  case oc14 =>
                    exact ask_off rfl ⟨3, false, rfl, by kernel_rfl, rfl⟩
                  case oc15 =>
                    exact ask_off rfl ⟨3, false, rfl, by kernel_rfl, rfl⟩
                  case oc16 =>
                    exact ask_off rfl ⟨3, false, rfl, by kernel_rfl, rfl⟩
                  case oc17 =>
                    exact ask_off rfl ⟨3, false, rfl, by kernel_rfl, rfl⟩
                  case oc18 =>
                    exact ask_off rfl ⟨3, false, rfl, by kernel_rfl, rfl⟩
                  case oc19 =>
                    exact ask_off rfl ⟨3, false, rfl, by kernel_rfl, rfl⟩
                  case oc20 =>
                    exact ask_off rfl ⟨3, false, rfl, by kernel_rfl, rfl⟩
                  case oc21 =>
                    exact ask_off rfl ⟨3, false, rfl, by kernel_rfl, rfl⟩
                  case oc22 =>
                    exact ask_off rfl ⟨3, false, rfl, by kernel_rfl, rfl⟩
                  case oc23 =>
                    exact ask_off rfl ⟨3, false, rfl, by kernel_rfl, rfl⟩
                  case oc24 =>
                    refine ask_val [.op 81 3 (Fact.eq _), .op 101 23 (Fact.eq _)] rfl 102 rfl (.inl rfl) ⟨⟨by kernel_rfl, rfl⟩, ⟨by kernel_rfl, rfl⟩, trivial⟩ ?_
                    dsimp only [Has, Fact.eq]
                    intro e ρ w' hc hf hg hG h81 h101
                    go_simp
                    first | done | rfl
                  case oc25 =>
                    refine ask_val [.op 102 24 (Fact.eq _)] rfl 103 rfl (.inl rfl) ⟨⟨by kernel_rfl, rfl⟩, trivial⟩ ?_
                    dsimp only [Has, Fact.eq]
                    intro e ρ w' hc hf hg hG h102
                    go_simp
                    first | done | rfl
                  case oc26 =>
                    refine ask_val [.fix 8 _] rfl 104 rfl (.inr ⟨25, false, rfl, by kernel_rfl, rfl⟩) ⟨⟨by kernel_rfl, by conv => lhs; whnf⟩, trivial⟩ ?_
                    dsimp only [Has, Fact.eq]
                    intro e ρ w' hc hf hg hG h8
                    go_simp
                    first | done | rfl
                  case oc27 =>
                    refine ask_val [.fix 7 _] rfl 105 rfl (.inr ⟨25, false, rfl, by kernel_rfl, rfl⟩) ⟨⟨by kernel_rfl, by conv => lhs; whnf⟩, trivial⟩ ?_
                    dsimp only [Has, Fact.eq]
                    intro e ρ w' hc hf hg hG h7
                    go_simp
                    first | done | rfl
                  case oc28 =>
                    refine ask_val [.op 104 26 (Fact.eq _), .op 105 27 (Fact.eq _)] rfl 106 rfl (.inr ⟨25, false, rfl, by kernel_rfl, rfl⟩) ⟨⟨by kernel_rfl, rfl⟩, ⟨by kernel_rfl, rfl⟩, trivial⟩ ?_
                    dsimp only [Has, Fact.eq]
                    intro e ρ w' hc hf hg hG h104 h105
                    have y0 := bmj
                    go_simp
                    first | done | rfl | exact HJM.out
                  case oc29 =>
                    refine ask_val [.op 106 28 (Fact.eq _)] rfl 107 rfl (.inr ⟨25, false, rfl, by kernel_rfl, rfl⟩) ⟨⟨by kernel_rfl, rfl⟩, trivial⟩ ?_
                    dsimp only [Has, Fact.eq]
                    intro e ρ w' hc hf hg hG h106
                    go_simp
                    first | done | rfl
                  case oc30 =>
                    refine ask_val [.fix 0 _] rfl 108 rfl (.inr ⟨29, true, rfl, by kernel_rfl, rfl⟩) ⟨⟨by kernel_rfl, by conv => lhs; whnf⟩, trivial⟩ ?_
                    dsimp only [Has, Fact.eq]
                    intro e ρ w' hc hf hg hG h0
                    go_simp
                    first | done | rfl
                  case oc31 =>
                    refine ask_val [.op 108 30 (Fact.eq _)] rfl 109 rfl (.inr ⟨29, true, rfl, by kernel_rfl, rfl⟩) ⟨⟨by kernel_rfl, rfl⟩, trivial⟩ ?_
                    dsimp only [Has, Fact.eq]
                    intro e ρ w' hc hf hg hG h108
                    go_simp
                    first | done | rfl
                  case oc32 =>
                    refine ask_val [.op 109 31 (Fact.eq _)] rfl 110 rfl (.inr ⟨29, true, rfl, by kernel_rfl, rfl⟩) ⟨⟨by kernel_rfl, rfl⟩, trivial⟩ ?_
                    dsimp only [Has, Fact.eq]
                    intro e ρ w' hc hf hg hG h109
                    go_simp
                    first | done | rfl
                  case oc33 =>
                    refine ask_step [.op 110 32 (Fact.eq _)] rfl 111 rfl (.inr ⟨29, true, rfl, by kernel_rfl, rfl⟩) ⟨⟨by kernel_rfl, rfl⟩, trivial⟩ 0 0 (by kernel_rfl) ?_
                    dsimp only [Has, Fact.eq]
                    intro e ρ w' hp hq hc hf hg hG h110
                    have q0 := pw_cell_below hG.out kg4
                    refine ⟨_, w', ?_, rfl, Below.refl _ _⟩
                    go_simp
                    first | done | rfl
                  case oc34 =>
                    refine ask_val [.fix 6 _] rfl 112 rfl (.inr ⟨29, true, rfl, by kernel_rfl, rfl⟩) ⟨⟨by kernel_rfl, by conv => lhs; whnf⟩, trivial⟩ ?_
                    dsimp only [Has, Fact.eq]
                    intro e ρ w' hc hf hg hG h6
                    go_simp
                    first | done | rfl
                  case oc35 =>
                    refine ask_val [.op 111 33 (Fact.eq _), .op 112 34 (Fact.eq _)] rfl 113 rfl (.inr ⟨29, true, rfl, by kernel_rfl, rfl⟩) ⟨⟨by kernel_rfl, rfl⟩, ⟨by kernel_rfl, rfl⟩, trivial⟩ ?_
                    dsimp only [Has, Fact.eq]
                    intro e ρ w' hc hf hg hG h111 h112
                    have y0 := pi0
                    have y1 := pi1
                    go_simp
                    first | done | rfl | exact HJM.out
                  case oc36 =>
                    refine ask_step [.op 113 35 (Fact.eq _)] rfl 114 rfl (.inr ⟨29, true, rfl, by kernel_rfl, rfl⟩) ⟨⟨by kernel_rfl, rfl⟩, trivial⟩ 0 0 (by kernel_rfl) ?_
                    dsimp only [Has, Fact.eq]
                    intro e ρ w' hp hq hc hf hg hG h113
                    have q0 := pw_cell_below hG.out kN
                    refine ⟨_, w', ?_, rfl, Below.refl _ _⟩
                    go_simp
                    first | done | rfl
                  case oc37 =>
                    refine ask_val [.fix 8 _] rfl 115 rfl (.inr ⟨29, true, rfl, by kernel_rfl, rfl⟩) ⟨⟨by kernel_rfl, by conv => lhs; whnf⟩, trivial⟩ ?_
                    dsimp only [Has, Fact.eq]
                    intro e ρ w' hc hf hg hG h8
                    go_simp
                    first | done | rfl
                  case oc38 =>
                    refine ask_val [.op 114 36 (Fact.eq _), .op 115 37 (Fact.eq _)] rfl 116 rfl (.inr ⟨29, true, rfl, by kernel_rfl, rfl⟩) ⟨⟨by kernel_rfl, rfl⟩, ⟨by kernel_rfl, rfl⟩, trivial⟩ ?_
                    dsimp only [Has, Fact.eq]
                    intro e ρ w' hc hf hg hG h114 h115
                    have y0 := pj0
                    have y1 := pj1
                    go_simp
                    first | done | rfl | exact HJM.out
                  case oc39 =>
                    refine ask_step [.op 116 38 (Fact.eq _)] rfl 117 rfl (.inr ⟨29, true, rfl, by kernel_rfl, rfl⟩) ⟨⟨by kernel_rfl, rfl⟩, trivial⟩ 0 0 (by kernel_rfl) ?_
                    dsimp only [Has, Fact.eq]
                    intro e ρ w' hp hq hc hf hg hG h116
                    have q0 := pw_cell_below hG.out kT
                    refine ⟨_, w', ?_, rfl, Below.refl _ _⟩
                    go_simp
                    first | done | rfl
                  case oc40 =>
                    refine ask_val [.op 117 39 (Fact.eq _)] rfl 118 rfl (.inr ⟨29, true, rfl, by kernel_rfl, rfl⟩) ⟨⟨by kernel_rfl, rfl⟩, trivial⟩ ?_
                    dsimp only [Has, Fact.eq]
                    intro e ρ w' hc hf hg hG h117
                    go_simp
                    first | done | (rw [ByteArray.toList_eq]; rfl) | rfl
                  case oc41 =>
                    refine ask_val [.op 107 29 (Fact.eq _), .op 118 40 (Fact.eq _)] rfl 119 rfl (.inr ⟨25, false, rfl, by kernel_rfl, rfl⟩) ⟨⟨by kernel_rfl, rfl⟩, ⟨by kernel_rfl, rfl⟩, trivial⟩ ?_
                    dsimp only [Has, Fact.eq]
                    intro e ρ w' hc hf hg hG h107 h118
                    go_simp
                    first | done | rfl
                  case oc42 =>
                    refine ask_val [.op 103 25 (Fact.eq _), .op 119 41 (Fact.eq _)] rfl 120 rfl (.inl rfl) ⟨⟨by kernel_rfl, rfl⟩, ⟨by kernel_rfl, rfl⟩, trivial⟩ ?_
                    dsimp only [Has, Fact.eq]
                    intro e ρ w' hc hf hg hG h103 h119
                    go_simp
                    first | done | rfl
                  case finc =>
                    intro w' hG
                    refine fin_eq (fin_eq (fin_eq (fin_eq (fin_eq (fin_eq (fin_eq (fin_eq (fin_eq (fin_eq (fin_eq (fin_eq (fin_eq (fin_eq (fin_eq (fin_eq (fin_eq (fin_eq (fin_eq (fin_eq (fin_eq (fin_eq (fin_eq (fin_eq (fin_eq (fin_eq (fin_eq (fin_eq (fin_eq (fin_eq (fin_eq (fin_eq (fin_eq (fin_eq (fin_eq (fin_eq (fin_eq (fin_eq (fin_eq (fin_eq (fin_eq (fin_eq (fin_eq (fin_nil (a' := ?_) ?_ ?_)))))))))))))))))))))))))))))))))))))))))))
                    rotate_left
                    · simp only [Act.put, List.setIfInBounds_toArray, List.set_cons_zero, List.set_cons_succ]
                      rfl
                    have HK2 : Aside0 (LeftOk W p0 p1 (some adA) n c w' ∧ Below wi.heap.size wi w') := ⟨HLR.out.1.next hG.out, below_then HLR.out.2 HLR.out.2.size hG.out⟩
                    clear hG
                    go_wp2_with fail
                    go_roundw
                    case rel => exact ⟨j + 1, by first | rfl | (rw [hwj]; rfl), HJ1.out, HK2⟩
                    case measure => first | exact HMJ.out | (rw [hwj]; exact HMJ.out)
              · have b2 : decide ((j : Int) < (Mi : Int)) = false := decide_eq_false (by omega)
                have b3 : (j < Mi) = False := eq_false hjl
                have b4 : decide (j < Mi) = false := decide_eq_false hjl
                clear hjl hj
                go_wp2_with fail
                go_roundw
                case rel => exact ⟨i + 1, by first | rfl | (rw [hwi]; rfl), HI1.out, ⟨HL.out.1⟩⟩
                case measure => first | exact HMS.out | (rw [hwi]; exact HMS.out)
          · have b1 : decide ((i : Int) < (n : Int)) = false := decide_eq_false (by omega)
            have b2 : (i < n) = False := eq_false hlt
            have b3 : decide (i < n) = false := decide_eq_false hlt
            clear hi hlt
            go_wp2_with fail
            go_ret
            exact ⟨rfl, HL.out.below⟩
end Go.Proofs.YtkfjjmmpbfjhaaaGreatDoor.Tells
