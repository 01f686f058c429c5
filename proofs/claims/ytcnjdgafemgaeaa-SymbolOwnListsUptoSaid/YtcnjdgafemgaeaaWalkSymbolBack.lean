/- The law SymbolBack, walked: what is given back has never come: the call returns true for every three lists of texts; and the row's opening of a slice of strings. Conditions: none. -/
import Derived.Test.YtcnjdgafemgaeaaSymTable
import Derived.Deep.Slices
namespace Go.Proofs.Ytcnjdgafemgaeaa.Sym
open Go.RowKit Go.Maps Go.WideMaps Go.Proofs.Ytcnjdgafemgaeaa.PSymbolFirst Go.Proofs.YtcnjdgafemgaeaaW.PrintWords Go.Proofs.YtcnjdgafemgaeaaW.PrintLast Go.Proofs.YtcnjdgafemgaeaaW.PrintMore
attribute [local go_sem] max2_int min2_int max_two min_two max_three min_three max_four min_four
set_option linter.unusedVariables false
set_option linter.unusedSimpArgs false

theorem only_below {B : Nat} {w w1 w2 : World} {ok : Nat → Prop} (hB : Below B w w1) (hle : B ≤ w.heap.size) (hO : Only ok w1 w2) (hk : ∀ i, ok i → B ≤ i) : Below B w w2 :=
  ⟨hO.os.trans hB.os, hO.tape.trans hB.tape, hO.output.trans hB.output, Nat.le_trans hB.size hO.size,
    fun i hi => (hO.block i (Nat.lt_of_lt_of_le hi (Nat.le_trans hle hB.size)) (fun e => by have := hk i e; omega)).trans (hB.block i hi)⟩
/-- a table that the call itself has made, behind writes to it alone -/
structure Mine (B : Nat) (w : World) (g m : Nat) (ss : List ByteArray) (ok : Nat → Prop) (wr : World) : Prop where
  table : IsTable wr ok g m ss
  own : ∀ i, ok i → B ≤ i
  below : Below B w wr
theorem Mine.drewN {B : Nat} {w wr : World} {g m : Nat} {ss : List ByteArray} {ok : Nat → Prop} (h : Mine B w g m ss ok wr) (n : Nat) : Mine B w g m ss ok (wr.drewN n) :=
  ⟨h.table.drewN n, h.own, pw_below_drewN h.below n⟩
theorem Mine.turned {B : Nat} {w wr w' : World} {g m : Nat} {ss ss' : List ByteArray} {ok : Nat → Prop} (h : Mine B w g m ss ok wr) (hle : B ≤ w.heap.size) (t : Turned wr ok g m ss' w') :
    ∃ ok', Mine B w g m ss' ok' w' ∧ (∀ i, ok' i → ok i ∨ wr.heap.size ≤ i) ∧ Only ok wr w' := by
  obtain ⟨ok', T, h1, h2⟩ := t
  exact ⟨ok', ⟨T, fun i hi => by
    rcases h1 i hi with k | k
    · exact h.own i k
    · exact Nat.le_trans hle (Nat.le_trans h.below.size k), only_below h.below hle h2 h.own⟩, h1, h2⟩

set_option maxHeartbeats 1000000 in
/-- full: a table of the greatest most, with these texts added -/
theorem full_calls (w : World) (A : Option Addr) (c : Nat) (l : List ByteArray) (hC : Kd.C Kd.string w A l.length l) (hc : l.length ≤ c) :
    Calls Try.prog 52 #[.slice A l.length c] w fun e w' => ∃ g ok, e = .returned (.pointer (some ⟨g, 0, none⟩)) ∧ Mine w.heap.size w g 4096 (adds 4096 [] l) ok w' := by
  have hnp := fun (W : World) => new_ok W 4096 (by omega)
  have HC := Aside0.mk hC
  have hmax : l.length ≤ 9223372036854775807 := Kd.C_max hC
  clear hC
  go_enter Try.func52, Try.ntmps52
  go_wp2_with fail
  refine (hnp _).mono ?_; rintro e w1 ⟨g, ok, rfl, T, hok, hB⟩
  clear hnp
  have HM : Aside0 (Mine w.heap.size w g 4096 [] ok w1) := ⟨⟨T, hok, hB⟩⟩
  clear T hok hB
  go_wp2_with (go_at_call 38; (with_reducible refine (kilnlaw6_num.calls _ _ _ rfl).mono ?_); rintro e w' ⟨rfl, ⟨nd, rfl⟩⟩)
  go_loopw [5] (fun i wr => ∃ (j : Nat) (ok : Nat → Prop), i = .int .i64 (j : Int) ∧ j ≤ l.length ∧ Aside0 (Mine w.heap.size w g 4096 (adds 4096 [] (l.take j)) ok wr))
    (fun i _ => l.length - (intOf i).toNat)
  case atStart => exact ⟨0, ok, rfl, by omega, ⟨HM.out.drewN _⟩⟩
  case round =>
    obtain ⟨j, ok', rfl, hj, hM⟩ := hrel
    by_cases hlt : j < l.length
    · have b3 : decide ((j : Int) < (l.length : Int)) = true := decide_eq_true (by omega)
      obtain ⟨ad, rfl, hcell⟩ := Kd.at_string (Kd.C_below HC.out hM.out.below) (j : Int) (by omega) (by omega)
      rw [Int.toNat_natCast] at hcell
      have hadd := adds_snoc 4096 [] l j hlt
      generalize rdOf ByteArray.empty l (j : Int) = s at *
      have HA := Aside0.mk hadd
      clear hadd
      go_wp2_with fail
      refine (add_calls _ ok' g 4096 _ s (by exact hM.out.table)).mono ?_
      rintro e w2 ⟨n0, e0, ss', ha, rfl, ht⟩
      have hss := addF_of ha
      rw [← HA.out] at hss
      subst hss
      obtain ⟨ok2, h2, _, _⟩ := hM.out.turned (Nat.le_refl _) ht
      have HM2 := Aside0.mk h2
      clear h2 ht ha hcell
      go_wp2
      go_roundw
      case rel => exact ⟨j + 1, ok2, by go_num, by omega, HM2⟩
      case measure => simp [intOf]; omega
    · have b3 : decide ((j : Int) < (l.length : Int)) = false := decide_eq_false (by omega)
      have ht : l.take j = l := List.take_of_length_le (by omega)
      rw [ht] at hM
      go_wp2
      go_ret
      exact ⟨g, ok', rfl, hM.out⟩

/-- two tables of the call's own, apart from one another -/
structure Two (B : Nat) (w : World) (g1 : Nat) (S1 : List ByteArray) (ok1 : Nat → Prop) (g2 : Nat) (S2 : List ByteArray) (ok2 : Nat → Prop) (wr : World) : Prop where
  one : Mine B w g1 4096 S1 ok1 wr
  two : Mine B w g2 4096 S2 ok2 wr
  apart : ∀ i, ok1 i → ¬ ok2 i
section
variable {B : Nat} {w wr w' : World} {g1 g2 : Nat} {S1 S2 S' : List ByteArray} {ok1 ok2 : Nat → Prop}
theorem Two.drewN (h : Two B w g1 S1 ok1 g2 S2 ok2 wr) (n : Nat) : Two B w g1 S1 ok1 g2 S2 ok2 (wr.drewN n) := ⟨h.one.drewN n, h.two.drewN n, h.apart⟩
theorem Mine.step (h : Mine B w g1 4096 S1 ok1 wr) (hB : B ≤ w.heap.size) (hb : Below wr.heap.size wr w') : Mine B w g1 4096 S1 ok1 w' :=
  ⟨h.table.below hb, h.own, below_then h.below (Nat.le_trans hB h.below.size) hb⟩
theorem Two.step (h : Two B w g1 S1 ok1 g2 S2 ok2 wr) (hB : B ≤ w.heap.size) (hb : Below wr.heap.size wr w') : Two B w g1 S1 ok1 g2 S2 ok2 w' := ⟨h.one.step hB hb, h.two.step hB hb, h.apart⟩
theorem Two.left (h : Two B w g1 S1 ok1 g2 S2 ok2 wr) (hB : B ≤ w.heap.size) (t : Turned wr ok1 g1 4096 S' w') : ∃ ok, Two B w g1 S' ok g2 S2 ok2 w' := by
  obtain ⟨ok', h1, h2, h3⟩ := h.one.turned hB t
  refine ⟨ok', h1, ⟨h.two.table.keep h3 (fun i hi hj => h.apart i hj hi), h.two.own, h1.below⟩, fun i hi hj => ?_⟩
  rcases h2 i hi with k | k
  · exact h.apart i k hj
  · have := h.two.table.lt i hj; omega
theorem Two.right (h : Two B w g1 S1 ok1 g2 S2 ok2 wr) (hB : B ≤ w.heap.size) (t : Turned wr ok2 g2 4096 S' w') : ∃ ok, Two B w g1 S1 ok1 g2 S' ok w' := by
  obtain ⟨ok', h1, h2, h3⟩ := h.two.turned hB t
  refine ⟨ok', ⟨h.one.table.keep h3 (fun i hi hj => h.apart i hi hj), h.one.own, h1.below⟩, h1, fun i hi hj => ?_⟩
  rcases h2 i hj with k | k
  · exact h.apart i hi k
  · have := h.one.table.lt i hi; omega
end
/-- the same list twice -/
theorem same_loop (l : List ByteArray) (hl : l.length ≤ 9223372036854775807) (d : Nat) : ∀ (k i : Nat), i ≤ l.length → l.length - i = d → kilnlaw6_sameTexts.l0 (d + 1 + k) l l (i : Int) = some true := by
  induction d with
  | zero =>
    intro k i hi hd
    rw [show 0 + 1 + k = k + 1 by omega]
    simp only [kilnlaw6_sameTexts.l0]
    rw [if_neg (by omega)]
  | succ d ih =>
    intro k i hi hd
    rw [show d + 1 + 1 + k = (d + 1 + k) + 1 by omega]
    simp only [kilnlaw6_sameTexts.l0]
    rw [if_pos (by omega), if_pos (by omega), if_pos (by omega), if_true, show wrap64 ((i : Int) + 1) = ((i + 1 : Nat) : Int) by unfold wrap64; omega]
    exact ih k (i + 1) (by omega) (by omega)
theorem same_true (l : List ByteArray) (hl : l.length ≤ 9223372036854775807) : ∃ k, kilnlaw6_sameTexts.f k l l = some true :=
  ⟨l.length + 1 + 0, by unfold kilnlaw6_sameTexts.f; rw [if_pos rfl]; exact same_loop l hl l.length 0 0 (by omega) (by omega)⟩
theorem same_calls (w : World) (A0 A1 : Option Addr) (c0 c1 : Nat) (l : List ByteArray) (h0 : Kd.C Kd.string w A0 l.length l) (k0 : l.length ≤ c0) (h1 : Kd.C Kd.string w A1 l.length l) (k1 : l.length ≤ c1) :
    Calls Try.prog 39 #[.slice A0 l.length c0, .slice A1 l.length c1] w fun e w' => e = .returned (.bool true) ∧ Drawn0 w w' := by
  obtain ⟨k, hk⟩ := same_true l (Kd.C_max h0)
  exact kilnlaw6_sameTexts.calls k A0 c0 l A1 c1 l true w h0 k0 h1 k1 hk

theorem rd_mem (l : List ByteArray) (j : Nat) (h : j < l.length) : rdOf ByteArray.empty l (j : Int) ∈ l := by
  unfold rdOf
  rw [Int.toNat_natCast, List.getD_eq_getElem?_getD, List.getElem?_eq_getElem h]
  exact List.getElem_mem h
theorem pw_cell_below_le {w w1 : World} (h : Below w.heap.size w w1) {a : Addr} {v : Value} (hc : w.cell? a = some v) : w1.cell? a = some v := pw_cell_below h hc
theorem back_zero (w : World) (ok : Nat → Prop) (g m : Nat) (ss : List ByteArray) (T : IsTable w ok g m ss) :
    Calls Try.prog 53 #[.pointer (some ⟨g, 0, none⟩), .int .i64 0] w fun e w' => e = .returned (.int .i64 0) ∧ Turned w ok g m [] w' := by
  have := back_ok w ok g m ss 0 T (Nat.zero_le _)
  simpa using this
theorem add_x {n e : Int} {ss : List ByteArray} (h : AddIs 4096 [] ⟨#[120]⟩ n e ss) : n = 0 ∧ e = 0 ∧ ss = [⟨#[120]⟩] := by
  cases h with
  | bad h => exact absurd ⟨Nat.le_refl 1, by decide⟩ h
  | there _ i hi => simp at hi
  | full _ _ h => simp at h
  | new _ _ _ => exact ⟨rfl, rfl, rfl⟩
theorem lit_C (W : World) (s : ByteArray) (t : TypeId) : Kd.C Kd.string (W.alloc (.cells #[.string s] t)) (some ⟨W.heap.size, 0, none⟩) 1 [s] := by
  refine ⟨rfl, by omega, fun _ => ⟨_, rfl, fun j p hp => ?_⟩⟩
  have hj := (List.getElem?_eq_some_iff.1 hp).1
  obtain rfl : j = 0 := by simpa using hj
  simp at hp; subst hp
  refine ⟨[.string s], rfl, rfl, fun i u hu => ?_⟩
  have hi := (List.getElem?_eq_some_iff.1 hu).1
  obtain rfl : i = 0 := by simpa using hi
  simp at hu; subst hu
  rw [add_plain]
  exact (blk_cell (heap_alloc_new W _) 0)
theorem found_det {ss : List ByteArray} {s : ByteArray} {n n' : Int} {b b' : Bool} (hn : ss.Nodup) (h : Found ss s n b) (k : Found ss s n' b') : n = n' ∧ b = b' := by
  rcases h with ⟨i, hi, rfl, rfl⟩ | ⟨h, rfl, rfl⟩ <;> rcases k with ⟨j, hj, rfl, rfl⟩ | ⟨k, rfl, rfl⟩
  · have := ((List.getElem?_inj (List.getElem?_eq_some_iff.1 hi).1 hn).1 (hi.trans hj.symm))
    subst this; exact ⟨rfl, rfl⟩
  · exact absurd (List.mem_of_getElem? hi) k
  · exact absurd (List.mem_of_getElem? hj) h
  · exact ⟨rfl, rfl⟩

set_option maxHeartbeats 4000000 in
set_option maxRecDepth 100000 in
/-- the law SymbolBack -/
theorem back_law (w : World) (A B C : Option Addr) (ca cb cc : Nat) (l others more : List ByteArray) (hA : Kd.C Kd.string w A l.length l) (ha : l.length ≤ ca) (hB : Kd.C Kd.string w B others.length others) (hb : others.length ≤ cb) (hC : Kd.C Kd.string w C more.length more) (hc : more.length ≤ cc) (hz : ∀ s ∈ others, s.size ≤ maxLen) :
    Calls Try.prog 10 #[.slice A l.length ca, .slice B others.length cb, .slice C more.length cc] w fun e w' => e = .returned (.bool true) ∧ Below w.heap.size w w' := by
  have HA := Aside0.mk hA
  have HB := Aside0.mk hB
  have HC := Aside0.mk hC
  have HZ := Aside0.mk hz
  have mb := Kd.C_max hB
  have mc := Kd.C_max hC
  clear hA hB hC hz
  go_enter Try.func10, Try.ntmps10
  go_wp2_with fail
  refine (full_calls _ A ca l HA.out ha).mono ?_; rintro e w1 ⟨g1, ok1, rfl, hM1⟩
  go_wp2_with fail
  refine (full_calls _ A ca l (Kd.C_below HA.out hM1.below) ha).mono ?_; rintro e w2 ⟨g2, ok2, rfl, hM2⟩
  have hT : Aside0 (Two w.heap.size w g1 (adds 4096 [] l) ok1 g2 (adds 4096 [] l) ok2 w2) :=
    ⟨⟨hM1.step (Nat.le_refl _) hM2.below, ⟨hM2.table, fun i hi => Nat.le_trans hM1.below.size (hM2.own i hi), below_then hM1.below hM1.below.size hM2.below⟩, fun i hi hj => by have := hM1.table.lt i hi; have := hM2.own i hj; omega⟩⟩
  clear hM1 hM2
  generalize adds 4096 [] l = S at *
  go_wp2_with fail
  refine (count_calls _ ok1 g1 4096 S (by exact hT.out.one.table)).mono ?_; rintro e w' ⟨rfl, ⟨nd, rfl⟩⟩
  go_wp2_with fail
  have hSl : S.length ≤ 4096 := by have := hT.out.one.table.good.le; omega
  go_loopw [10] (fun i wr => ∃ (j : Nat) (o1 o2 : Nat → Prop), i = .int .i64 (j : Int) ∧ j ≤ others.length ∧ Aside0 (Two w.heap.size w g1 (adds 4096 S (others.take j)) o1 g2 S o2 wr))
    (fun i _ => others.length - (intOf i).toNat)
  case atStart => exact ⟨0, ok1, ok2, rfl, by omega, ⟨hT.out.drewN _⟩⟩
  case round =>
    clear hT
    obtain ⟨j, o1, o2, rfl, hj, hT⟩ := hrel
    by_cases hlt : j < others.length
    · have b3 : decide ((j : Int) < (others.length : Int)) = true := decide_eq_true (by omega)
      obtain ⟨ad, rfl, hcell⟩ := Kd.at_string (Kd.C_below HB.out hT.out.one.below) (j : Int) (by omega) (by omega)
      rw [Int.toNat_natCast] at hcell
      have hadd := adds_snoc 4096 S others j hlt
      generalize rdOf ByteArray.empty others (j : Int) = s at *
      have HA' := Aside0.mk hadd
      clear hadd
      go_wp2_with fail
      refine (add_calls _ o1 g1 4096 _ s (by exact hT.out.one.table)).mono ?_
      rintro e w3 ⟨n0, e0, ss', ha', rfl, ht⟩
      have hss := addF_of ha'
      rw [← HA'.out] at hss
      subst hss
      obtain ⟨o1', h2⟩ := hT.out.left (Nat.le_refl _) ht
      have HM2 := Aside0.mk h2
      clear h2 ht ha' hcell
      go_wp2
      go_roundw
      case rel => exact ⟨j + 1, o1', o2, by go_num, by omega, HM2⟩
      case measure => simp [intOf]; omega
    · have b3 : decide ((j : Int) < (others.length : Int)) = false := decide_eq_false (by omega)
      have ht : others.take j = others := List.take_of_length_le (by omega)
      rw [ht] at hT
      clear ht
      have hle : S.length ≤ (adds 4096 S others).length := (adds_le 4096 S others).length_le
      have htk : Aside0 ((adds 4096 S others).take S.length = S) := ⟨List.prefix_iff_eq_take.1 (adds_le 4096 S others) |>.symm⟩
      go_wp2_with fail
      refine (back_ok _ o1 g1 4096 _ S.length (by exact hT.out.one.table) hle).mono ?_
      rintro e w3 ⟨rfl, ht⟩
      rw [htk.out] at ht
      obtain ⟨o1', hT3⟩ := hT.out.left (Nat.le_refl _) ht
      have HT := Aside0.mk hT3
      clear hT3 ht hT htk hle
      go_wp2_with (go_at_call 38; (with_reducible refine (kilnlaw6_num.calls _ _ _ rfl).mono ?_); rintro e w' ⟨rfl, ⟨nd, rfl⟩⟩)
      refine (count_calls _ o1' g1 4096 S (by exact (HT.out.drewN _).one.table)).mono ?_; rintro e w' ⟨rfl, ⟨nd, rfl⟩⟩
      go_wp2_with fail
      refine (all_calls _ o1' g1 4096 S (by exact (HT.out.drewN _).one.table)).mono ?_; rintro e w4 ⟨v4, rfl, hR4, hB4⟩
      have HT4 := Aside0.mk ((HT.out.drewN _).step (Nat.le_refl _) hB4)
      clear HT hB4
      go_wp2_with fail
      refine (all_calls _ o2 g2 4096 S (by exact HT4.out.two.table)).mono ?_; rintro e w5 ⟨v5, rfl, hR5, hB5⟩
      have HT5 := Aside0.mk (HT4.out.step (Nat.le_refl _) hB5)
      have hR4' := Kd.R_below hR4 hB5
      clear hR4
      obtain ⟨A4, c4, rfl, k4, hC4⟩ := Kd.R_reads hR4'
      obtain ⟨A5, c5, rfl, k5, hC5⟩ := Kd.R_reads hR5
      clear hR4' hR5 HT4 hB5
      go_wp2_with fail
      refine (same_calls _ A4 A5 c4 c5 S (by exact hC4) k4 (by exact hC5) k5).mono ?_; rintro e w' ⟨rfl, ⟨nd, rfl⟩⟩
      clear hC4 hC5
      go_wp2_with fail
      go_loopw [12] (fun i wr => ∃ (j : Nat), i = .int .i64 (j : Int) ∧ j ≤ others.length ∧ Aside0 (Two w.heap.size w g1 S o1' g2 S o2 wr))
        (fun i _ => others.length - (intOf i).toNat)
      case atStart => exact ⟨0, rfl, by omega, ⟨HT5.out.drewN _⟩⟩
      case round =>
        clear HT5
        obtain ⟨j2, rfl, hj2, hT⟩ := hrel
        by_cases hlt2 : j2 < others.length
        · have b4 : decide ((j2 : Int) < (others.length : Int)) = true := decide_eq_true (by omega)
          obtain ⟨ad, rfl, hcell⟩ := Kd.at_string (Kd.C_below HB.out hT.out.one.below) (j2 : Int) (by omega) (by omega)
          have hsz : (rdOf ByteArray.empty others (j2 : Int)).size ≤ maxLen := HZ.out _ (rd_mem others j2 hlt2)
          rw [Int.toNat_natCast] at hcell
          generalize rdOf ByteArray.empty others (j2 : Int) = s at *
          go_wp2_with fail
          refine (find_calls _ o1' g1 4096 S s hsz (by exact hT.out.one.table)).mono ?_
          rintro e w6 ⟨n6, b6, hf6, rfl, ⟨nd6, rfl⟩⟩
          go_wp2_with fail
          refine (find_calls _ o2 g2 4096 S s hsz (by exact (hT.out.drewN _).two.table)).mono ?_
          rintro e w7 ⟨n7, b7, hf7, rfl, ⟨nd7, rfl⟩⟩
          obtain ⟨rfl, rfl⟩ := found_det hT.out.one.table.good.nodup hf6 hf7
          clear hf6 hf7
          have x1 : (n6 == n6) = true := beq_self_eq_true _
          have x2 : (n6 != n6) = false := bne_self_eq_false _
          have x3 : (b6 == b6) = true := beq_self_eq_true _
          have x4 : (b6 != b6) = false := bne_self_eq_false _
          go_wp2
          go_roundw
          case rel => exact ⟨j2 + 1, by go_num, by omega, ⟨hT.out.drewN _⟩⟩
          case measure => simp [intOf]; omega
        · have b4 : decide ((j2 : Int) < (others.length : Int)) = false := decide_eq_false (by omega)
          go_wp2_with fail
          go_loopw [17] (fun i wr => ∃ (j : Nat) (p1 p2 : Nat → Prop), i = .int .i64 (j : Int) ∧ j ≤ more.length ∧ Aside0 (Two w.heap.size w g1 (adds 4096 S (more.take j)) p1 g2 (adds 4096 S (more.take j)) p2 wr))
            (fun i _ => more.length - (intOf i).toNat)
          case atStart => exact ⟨0, o1', o2, rfl, by omega, hT⟩
          case round =>
            clear hT
            obtain ⟨j3, p1, p2, rfl, hj3, hT⟩ := hrel
            by_cases hlt3 : j3 < more.length
            · have b5 : decide ((j3 : Int) < (more.length : Int)) = true := decide_eq_true (by omega)
              obtain ⟨ad, rfl, hcell⟩ := Kd.at_string (Kd.C_below HC.out hT.out.one.below) (j3 : Int) (by omega) (by omega)
              have hcell0 := Kd.at_string HC.out (j3 : Int) (by omega) (by omega)
              rw [Int.toNat_natCast] at hcell hcell0
              have hadd := adds_snoc 4096 S more j3 hlt3
              generalize rdOf ByteArray.empty more (j3 : Int) = s at *
              have HA' := Aside0.mk hadd
              have HC0 := Aside0.mk hcell0
              clear hadd hcell0
              go_wp2_with fail
              refine (add_calls _ p1 g1 4096 _ s (by exact hT.out.one.table)).mono ?_
              rintro e w6 ⟨n6, e6, ss', ha6, rfl, ht⟩
              obtain ⟨p1', h6⟩ := hT.out.left (Nat.le_refl _) ht
              have hcell6 : w6.cell? (ad.add j3) = some (.string s) := by
                obtain ⟨ad', e, h⟩ := HC0.out
                cases e
                exact pw_cell_below_le h6.one.below h
              clear hcell ht
              go_wp2_with fail
              refine (add_calls _ p2 g2 4096 _ s (by exact h6.two.table)).mono ?_
              rintro e w7 ⟨n7, e7, ss7, ha7, rfl, ht⟩
              obtain ⟨rfl, rfl, rfl⟩ := add_det hT.out.one.table.good.nodup ha6 ha7
              have hss := addF_of ha6
              rw [← HA'.out] at hss
              subst hss
              obtain ⟨p2', h7⟩ := h6.right (Nat.le_refl _) ht
              have HM2 := Aside0.mk h7
              clear h6 h7 ht ha6 ha7 hcell6 hT
              have x1 : (n6 == n6) = true := beq_self_eq_true _
              have x2 : (n6 != n6) = false := bne_self_eq_false _
              have x3 : (e6 == e6) = true := beq_self_eq_true _
              have x4 : (e6 != e6) = false := bne_self_eq_false _
              go_wp2_with (go_at_call 38; (with_reducible refine (kilnlaw6_num.calls _ _ _ rfl).mono ?_); rintro e w' ⟨rfl, ⟨nd, rfl⟩⟩)
              refine (count_calls _ p1' g1 4096 _ (by exact (HM2.out.drewN _).one.table)).mono ?_; rintro e w' ⟨rfl, ⟨nd8, rfl⟩⟩
              go_wp2_with fail
              refine (count_calls _ p2' g2 4096 _ (by exact (HM2.out.drewN _).two.table)).mono ?_; rintro e w' ⟨rfl, ⟨nd9, rfl⟩⟩
              go_wp2
              go_roundw
              case rel => exact ⟨j3 + 1, p1', p2', by go_num, by omega, ⟨HM2.out.drewN _⟩⟩
              case measure => simp [intOf]; omega
            · have b5 : decide ((j3 : Int) < (more.length : Int)) = false := decide_eq_false (by omega)
              have hl1 : (adds 4096 S (more.take j3)).length ≤ 4096 := by have := hT.out.one.table.good.le; omega
              generalize adds 4096 S (more.take j3) = S3 at *
              go_wp2_with fail
              refine (count_calls _ p1 g1 4096 _ (by exact hT.out.one.table)).mono ?_; rintro e w' ⟨rfl, ⟨nd8, rfl⟩⟩
              go_wp2_with fail
              refine (back_bad _ p1 g1 4096 S3 _ (by exact (hT.out.drewN _).one.table) (.inr (by omega))).mono ?_; rintro e w' ⟨rfl, ⟨nd9, rfl⟩⟩
              go_wp2_with fail
              refine (back_zero _ p1 g1 4096 S3 (by exact (hT.out.drewN _).one.table)).mono ?_; rintro e w6 ⟨rfl, ht⟩
              obtain ⟨p1', h6⟩ := (hT.out.drewN _).left (Nat.le_refl _) ht
              have HM := Aside0.mk h6.one
              clear ht h6 hT
              go_wp2_with (go_at_call 38; (with_reducible refine (kilnlaw6_num.calls _ _ _ rfl).mono ?_); rintro e w' ⟨rfl, ⟨nd, rfl⟩⟩)
              refine (count_calls _ p1' g1 4096 _ (by exact (HM.out.drewN _).table)).mono ?_; rintro e w' ⟨rfl, ⟨nd8, rfl⟩⟩
              go_wp2_with fail
              refine (add_calls _ p1' g1 4096 _ _ (by exact (HM.out.drewN _).table)).mono ?_
              rintro e w7 ⟨n7, e7, ss7, ha7, rfl, ht⟩
              obtain ⟨rfl, rfl, rfl⟩ := add_x ha7
              obtain ⟨p2', h7, _, _⟩ := (HM.out.drewN _).turned (Nat.le_refl _) ht
              have HM7 := Aside0.mk h7
              clear ha7 ht h7 HM
              go_wp2_with (go_at_call 38; (with_reducible refine (kilnlaw6_num.calls _ _ _ rfl).mono ?_); rintro e w' ⟨rfl, ⟨nd, rfl⟩⟩)
              refine (all_calls _ p2' g1 4096 _ (by exact (HM7.out.drewN _).table)).mono ?_; rintro e w8 ⟨v8, rfl, hR8, hB8⟩
              have HB8 : Aside0 (Below w.heap.size w w8) := ⟨below_then (pw_below_drewN HM7.out.below _) (Nat.le_trans HM7.out.below.size (Nat.le_refl _)) hB8⟩
              clear hB8
              obtain ⟨A8, c8, rfl, k8, hC8⟩ := Kd.R_reads hR8
              clear hR8
              go_wp2_with fail
              refine (same_calls _ A8 _ c8 1 [⟨#[120]⟩] (by exact Kd.C_alloc hC8 _) k8 (by exact lit_C _ _ _) (by simp)).mono ?_; rintro e w' ⟨rfl, ⟨nd9, rfl⟩⟩
              clear hC8
              go_wp2
              go_ret
              exact ⟨by first | rfl | (simp; done) | (simp [*]; done), pw_below_drewN (below_alloc HB8.out _) _⟩

/-- things chosen place by place, as a list -/
theorem list_of {α : Type} {p : Nat → α → Prop} : ∀ n : Nat, (∀ i, i < n → ∃ x, p i x) → ∃ l : List α, l.length = n ∧ ∀ i x, l[i]? = some x → p i x
  | 0, _ => ⟨[], rfl, fun i x h => by simp at h⟩
  | n + 1, h => by
    obtain ⟨l, hl, hp⟩ := list_of n (fun i hi => h i (by omega))
    obtain ⟨x, hx⟩ := h n (by omega)
    refine ⟨l ++ [x], by simp [hl], fun i y hy => ?_⟩
    by_cases hi : i < n
    · rw [List.getElem?_append_left (by omega)] at hy; exact hp i y hy
    · have hlt := (List.getElem?_eq_some_iff.1 hy).1
      simp at hlt
      obtain rfl : i = n := by omega
      rw [List.getElem?_append_right (by omega)] at hy
      simp [hl] at hy
      exact hy ▸ hx
/-- a slice of strings, opened -/
theorem open_strs {H : Type} {enc : TypeId × Value → H} {w : World} {base : Nat} {spare : Nat → Bool} {held : Bool} {A : Option Addr} {len cap : Nat} {d : DataW H} {p : List MemPlace}
    (h : DataW.Trod enc Try.prog w base spare held 36 (.slice A len cap) d p) : ∃ l : List ByteArray, l.length = len ∧ Kd.C Kd.string w A l.length l ∧ (l.length ≤ cap ∧ ∀ s ∈ l, s.size ≤ maxLen) := by
  obtain ⟨fuel, hf⟩ := h
  rcases Go.Deep.open_slice1 Try.underlying36 (by kernel_rfl) (by simpa [Value.cells] using hf) with ⟨hcs, _⟩ | ⟨a, len', cap', m, n, V, D, Pl, hcs, _, hl, hm, hmm, _, hx⟩
  · simp at hcs
    obtain ⟨rfl, rfl, rfl⟩ := hcs
    exact ⟨[], rfl, Kd.C_nil _ _, Nat.le_refl _, fun s hs => by simp at hs⟩
  · simp at hcs
    obtain ⟨rfl, rfl, rfl⟩ := hcs
    have hlm : len ≤ m := by rw [hmm]; split <;> omega
    obtain ⟨l, hll, hp⟩ := list_of (p := fun i (s : ByteArray) => w.cell? (a.add i) = some (.string s) ∧ s.size ≤ maxLen) len (fun i hi => by
      obtain ⟨hc, ht⟩ := hx i (by omega)
      obtain ⟨s, e, _, hs⟩ := DataW.trod_string Try.underlying9 ht
      simp at e
      exact ⟨s, by rw [hc, e], hs⟩)
    refine ⟨l, hll, ⟨rfl, by unfold maxLen at hm; omega, fun hn => ⟨a, rfl, fun j s hj => ⟨[.string s], rfl, rfl, fun i u hu => ?_⟩⟩⟩, by omega, fun s hs => ?_⟩
    · have hi := (List.getElem?_eq_some_iff.1 hu).1
      obtain rfl : i = 0 := by simpa using hi
      simp at hu; subst hu
      have := (hp j s hj).1
      simpa [show Kd.string.sz = 1 from rfl] using this
    · obtain ⟨i, hi⟩ := List.mem_iff_getElem?.1 hs
      exact (hp i s hi).2
theorem back_walk (A B C : Option Addr) (na ca nb cb nc cc : Nat) (l others more : List ByteArray) (w : World) (ea : l.length = na) (eb : others.length = nb) (ec : more.length = nc)
    (hA : Kd.C Kd.string w A l.length l) (hB : Kd.C Kd.string w B others.length others) (hC : Kd.C Kd.string w C more.length more) (ha : l.length ≤ ca ∧ ∀ s ∈ l, s.size ≤ maxLen) (hb : others.length ≤ cb ∧ ∀ s ∈ others, s.size ≤ maxLen) (hc : more.length ≤ cc ∧ ∀ s ∈ more, s.size ≤ maxLen) :
    Calls Try.prog 10 #[.slice A na ca, .slice B nb cb, .slice C nc cc] w fun e w' => e = .returned (.bool true) ∧ Below w.heap.size w w' := by
  subst ea eb ec
  exact back_law w A B C ca cb cc l others more hA ha.1 hB hb.1 hC hc.1 hb.2
end Go.Proofs.Ytcnjdgafemgaeaa.Sym
