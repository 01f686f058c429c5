/- kilnlaw24.hand, walked: a play with marks behind its lists. Conditions: those that each theorem states. -/
import Derived.Test.YtkfjjmmpbfjhaaaGreatDoorScrP
namespace Go.Proofs.YtkfjjmmpbfjhaaaGreatDoor.Tells
open Go.RowKit Go.Proofs.YtkfjjmmpbfjhaaaGreatDoor.Facts Go.Proofs.YtkfjjmmpbfjhaaaGreatDoor.PScriptActs Go.Proofs.YtkfjjmmpbfjhaaaGreatDoorW.PrintWords Go.Proofs.YtkfjjmmpbfjhaaaGreatDoorW.PrintLast Go.Proofs.YtkfjjmmpbfjhaaaGreatDoorW.PrintMore
attribute [local go_sem] max2_int min2_int max_two min_two max_three min_three max_four min_four
set_option linter.unusedVariables false
set_option linter.unusedSimpArgs false
theorem info31z : (Tryz.prog.info? 31).map (fun i => (i.zero, i.size, i.bytes)) = some (some (.agg #[(.int .i64 0), (.string ⟨#[]⟩), (.string ⟨#[]⟩), (.slice none 0 0), (.string ⟨#[]⟩), (.int .i64 0), (.int .i64 0)]), 7, 96) := by kernel_rfl
theorem info29z : (Tryz.prog.info? 29).map (fun i => (i.zero, i.size, i.bytes)) = some (some (.slice none 0 0), 1, 24) := by kernel_rfl
/-- nothing that was there is written but the blocks of S -/
structure Still (w w' : World) (S : Nat → Prop) : Prop where
  os : w'.os = w.os
  tape : w'.tape = w.tape
  output : w'.output = w.output
  size : w.heap.size ≤ w'.heap.size
  block : ∀ k, k < w.heap.size → ¬ S k → w'.heap[k]? = w.heap[k]?
theorem Still.of {w w' : World} {S : Nat → Prop} (hb : Below w.heap.size w w') : Still w w' S := ⟨hb.os, hb.tape, hb.output, hb.size, fun k hk _ => hb.block k hk⟩
theorem Still.mono {w w' : World} {S S' : Nat → Prop} (h : Still w w' S) (hs : ∀ k, S k → S' k) : Still w w' S' := ⟨h.os, h.tape, h.output, h.size, fun k hk hn => h.block k hk (fun h' => hn (hs k h'))⟩
theorem Still.trans {w w1 w2 : World} {S S' : Nat → Prop} (h : Still w w1 S) (h2 : Still w1 w2 S') (hs : ∀ k, k < w.heap.size → S' k → S k) : Still w w2 S :=
  ⟨h2.os.trans h.os, h2.tape.trans h.tape, h2.output.trans h.output, Nat.le_trans h.size h2.size, fun k hk hn => (h2.block k (Nat.lt_of_lt_of_le hk h.size) (fun h' => hn (hs k hk h'))).trans (h.block k hk hn)⟩
theorem Still.then {w w1 w2 : World} {S : Nat → Prop} (h : Still w w1 S) (hb : Below w1.heap.size w1 w2) : Still w w2 S := h.trans (Still.of (S := S) hb) (fun _ _ h => h)
theorem Still.set {w : World} {S : Nat → Prop} (g i : Nat) (v : Value) (hg : S g) : Still w (w.setCell ⟨g, i, none⟩ v) S :=
  ⟨rfl, rfl, rfl, by simp [World.setCell], fun k hk hn => Below.heap_setCell w _ v k (show k ≠ g from fun e => hn (e ▸ hg))⟩
theorem Still.grown {w w' : World} {S : Nat → Prop} {row : Option Nat} (hg : w.grownBy w' row) (h : ∀ k, row = some k → S k) : Still w w' S :=
  ⟨hg.os, hg.tape, hg.output, hg.size, fun k hk hn => hg.block k hk (fun e => hn (h k e.symm))⟩
theorem Still.below {w w' : World} {S : Nat → Prop} {B : Nat} (h : Still w w' S) (hB : B ≤ w.heap.size) (hs : ∀ k, S k → B ≤ k) : Below B w w' :=
  ⟨h.os, h.tape, h.output, h.size, fun k hk => h.block k (by omega) (fun h' => by have := hs k h'; omega)⟩
theorem Still.blk {w w' : World} {S : Nat → Prop} {g : Nat} {o : Obj} (h : Still w w' S) (hb : w.heap[g]? = some o) (hn : ¬ S g) : w'.heap[g]? = some o := (h.block g (blk_lt hb) hn).trans hb
theorem R_still {α : Type} {d : Kd α} {e base : Nat} {w w' : World} {v : Value} {xs : List α} {S : Nat → Prop} (h : d.R e w base (fun _ => True) v xs) (hs : Still w w' S) (hn : ∀ k cells q, q ∈ e :: d.E → w.heap[k]? = some (.cells cells q (0, 0)) → ¬ S k) : d.R e w' base (fun _ => True) v xs :=
  Kd.R_mono (Kd.R_move (Kd.R_bound h) (fun k hk => hs.block k hk.2.2.1 (by obtain ⟨_, _, _, q, hq, cells, hc⟩ := hk; exact hn k cells q hq hc))) (fun _ _ => trivial)
theorem run_append_raw (W : World) (base t e : Nat) (z : Value) (sz bytes : Nat) (ht : Tryz.prog.underlying t = some (.slice e)) (hinfo : (Tryz.prog.info? e).map (fun i => (i.zero, i.size, i.bytes)) = some (some z, sz, bytes)) (hz : z.cells.size = sz) (hs0 : 0 < sz) (hb0 : 0 < bytes)
    (v : Value) (xs : List (List Value)) (cs : List Value) (ad : Addr) (c : Nat) (ty : Nat) (HO : (Kd.raw sz).R e W base (fun _ => True) v xs) (hcell : ∀ j u, cs[j]? = some u → W.cell? (ad.add j) = some u) (hlen : cs.length = sz) (hone : ∀ u ∈ cs, u.oneCell' = true) (hbase : base ≤ W.heap.size) (hl : (xs.length + 1) * bytes ≤ 140737488355328) :
    ∃ v1 w1, (Builtin.append_ #[t, t] ty #[v, .slice (some ad) 1 c]).run Tryz.prog W = .ok v1 w1 ∧ (Kd.raw sz).R e w1 base (fun _ => True) v1 (xs ++ [cs]) ∧ W.grownBy w1 v.ownBlock ∧ (v1.ownBlock = v.ownBlock ∨ v1.ownBlock = some W.heap.size) := by
  obtain ⟨i0, hi, hzz⟩ := Option.map_eq_some_iff.1 hinfo
  simp only [Prod.mk.injEq] at hzz
  obtain ⟨hz0, hz1, hz2⟩ := hzz
  obtain ⟨h0, inner, hown, hr⟩ := HO
  have hlen' : xs.length + 1 ≤ 140737488355328 := Nat.le_trans (Nat.le_mul_of_pos_right _ hb0) hl
  obtain ⟨v1, w1, hrun, h2, hg, hm, hat⟩ := run_append_own_at (P := Tryz.prog) (w := W) base t ty e i0 z sz bytes ht hi hz0 hz1 hz2 hz hs0 v xs.length inner hown ad 1 c cs (by rw [hlen]; omega) hcell hone (by simp only [maxLen]; omega) (by omega) hbase
  exact ⟨v1, w1, hrun, ⟨fun _ _ => trivial, inner ++ cs, by rw [List.length_append, List.length_singleton]; exact h2, Reps.snoc hr ⟨rfl, hlen, hone⟩ hlen⟩, hg, hat⟩
section
variable {ops : Array Oper} {rest : List Oper} {o : Oper} {a : Act} {Q : Exit → Act → World → Prop} {K : Act → World → Prop}
theorem raw_app (W : World) (base t e : Nat) (z : Value) (sz bytes : Nat) (hgd : o.guard = none) (s x : Operand) (ho : o.op = .call { callee := .builtin .append, args := #[s, x], argTypes := #[t, t] }) (ht : Tryz.prog.underlying t = some (.slice e)) (hinfo : (Tryz.prog.info? e).map (fun i => (i.zero, i.size, i.bytes)) = some (some z, sz, bytes)) (hz : z.cells.size = sz) (hs0 : 0 < sz) (hb0 : 0 < bytes)
    (v : Value) (xs : List (List Value)) (cs : List Value) (hs : a.eval s = v) (hx : a.eval x = .slice (some ⟨W.heap.size, 0, none⟩) 1 1) (HO : (Kd.raw sz).R e W base (fun _ => True) v xs) (hlen : cs.length = sz) (hone : ∀ u ∈ cs, u.oneCell' = true) (hbase : base ≤ W.heap.size) (hl : (xs.length + 1) * bytes ≤ 140737488355328)
    (h : ∀ v1 w1, (Kd.raw sz).R e w1 base (fun _ => True) v1 (xs ++ [cs]) → W.grownBy w1 v.ownBlock → (v1.ownBlock = v.ownBlock ∨ ∃ b, v1.ownBlock = some b ∧ W.heap.size ≤ b) → wpList Tryz.prog ops Q rest (a.put o.dst v1) w1) : wpList Tryz.prog ops Q (o :: rest) a (W.alloc (.cells cs.toArray e)) := by
  have hbW : Below W.heap.size W (W.alloc (.cells cs.toArray e)) := below_alloc (Below.refl _ _) _
  obtain ⟨v1, w1, hr, hb1, hb2, hb3⟩ := run_append_raw (W.alloc (.cells cs.toArray e)) base t e z sz bytes ht hinfo hz hs0 hb0 v xs cs ⟨W.heap.size, 0, none⟩ 1 o.type (Kd.R_below HO hbW) (fun j u hu => by rw [add_plain, blk_cell (blk_new W _) j]; simpa using hu) hlen hone (Nat.le_trans hbase hbW.size) hl
  refine wpList_plain hgd fun K hK' => ?_
  unfold Oper.wp
  simp [execOp, ho, resolve, invoke, builtin, hs, hx, hr, Result.andThen]
  refine hK' _ _ (h v1 w1 hb1 ((World.grownBy_alloc W _ _).trans hb2) ?_)
  rcases hb3 with h3 | h3
  · exact .inl h3
  · exact .inr ⟨_, h3, by simp⟩
end
def markB : ByteArray := ⟨#[109, 97, 114, 107]⟩
def twinL (l : List ByteArray) : List ByteArray := l ++ List.replicate 8 markB
theorem twin_l1 (X : List ByteArray) (hb : X.length ≤ 1073741824) : ∀ (k i : Nat), i ≤ 8 → 8 - i < k → kilnlaw24_twin.l1 k (X ++ List.replicate i markB) (i : Int) = some (twinL X)
  | 0, i, hi, hk => by omega
  | k + 1, i, hi, hk => by
    rw [kilnlaw24_twin.l1]
    by_cases h : i < 8
    · have w4 : wrap64 ((i : Int) + 1) = ((i + 1 : Nat) : Int) := by unfold wrap64; omega
      rw [if_pos (by omega), if_pos (by rw [List.length_append, List.length_replicate]; omega), w4]
      have := twin_l1 X hb k (i + 1) (by omega) (by omega)
      rw [List.replicate_succ', ← List.append_assoc] at this
      exact this
    · obtain rfl : i = 8 := by omega
      rw [if_neg (by omega)]; rfl
theorem twin_l0 (X : List ByteArray) (hb : X.length ≤ 1073741824) : ∀ (k i : Nat), i ≤ X.length → X.length - i + 20 < k → kilnlaw24_twin.l0 k X (X.take i) (i : Int) = some (twinL X)
  | 0, i, hi, hk => by omega
  | k + 1, i, hi, hk => by
    rw [kilnlaw24_twin.l0]
    by_cases h : i < X.length
    · have w4 : wrap64 ((i : Int) + 1) = ((i + 1 : Nat) : Int) := by unfold wrap64; omega
      have rx : rdOf ByteArray.empty X (i : Int) = X[i] := by unfold rdOf; rw [Int.toNat_natCast, List.getD_eq_getElem?_getD, List.getElem?_eq_getElem h]; rfl
      have hs : X.take i ++ [X[i]] = X.take (i + 1) := by rw [List.take_add_one, List.getElem?_eq_getElem h]; rfl
      rw [if_pos (by omega), if_pos (by omega), if_pos (by rw [List.length_take]; omega), w4, rx, hs]
      exact twin_l0 X hb k (i + 1) (by omega) (by omega)
    · rw [if_neg (by omega), List.take_of_length_le (by omega)]
      have := twin_l1 X hb k 0 (by omega) (by omega)
      rw [List.replicate_zero, List.append_nil] at this
      exact this
theorem twin_f (X : List ByteArray) (hb : X.length ≤ 1073741824) : kilnlaw24_twin.f (X.length + 22) X = some (twinL X) := by
  unfold kilnlaw24_twin.f
  have := twin_l0 X hb (X.length + 22) 0 (Nat.zero_le _) (by omega)
  rw [List.take_zero] at this
  exact this
theorem twin_len (X : List ByteArray) : (twinL X).length = X.length + 8 := by unfold twinL; rw [List.length_append, List.length_replicate]
theorem twin_calls (X : List ByteArray) (A : Option Addr) (c : Nat) (w : World) (hA : Kd.C Kd.string w A X.length X) (hc : X.length ≤ c) (hb : X.length ≤ 1048576) : Calls Tryz.prog 26 #[.slice A X.length c] w fun e w' => ∃ t cap, e = .returned (.slice (some ⟨t, 0, none⟩) (X.length + 8) cap) ∧ X.length + 8 ≤ cap ∧ w.heap.size ≤ t ∧ Kd.R Kd.string 9 w' w.heap.size (fun _ => True) (.slice (some ⟨t, 0, none⟩) (X.length + 8) cap) (twinL X) ∧ Below w.heap.size w w' := by
  refine (kilnlaw24_twin.calls (X.length + 22) A c X (twinL X) w hA hc (twin_f X (by omega))).mono ?_
  rintro e w' ⟨v, rfl, hR, hb⟩
  obtain ⟨g, cap, ev, h1, h2, _⟩ := Kd.R_form hR (by rw [twin_len]; omega)
  rw [twin_len] at ev
  subst ev
  obtain ⟨A9, c9, e9, h9, _⟩ := Kd.R_reads hR
  injection e9 with _ _ e9c
  rw [twin_len] at h9
  exact ⟨g, cap, rfl, by omega, h1, hR, hb⟩
def fullC (e : S31 × Nat × Nat) : List Value := [.int .i64 e.1.f0, .string e.1.f1, .string e.1.f2, .slice (some ⟨e.2.1, 0, none⟩) e.1.f3.length e.2.2, .string e.1.f4, .int .i64 e.1.f5, .int .i64 e.1.f6]
def markC : List Value := [.int .i64 77, .string ⟨#[]⟩, .string ⟨#[]⟩, .slice none 0 0, .string ⟨#[]⟩, .int .i64 0, .int .i64 0]
def nameC (e : S31 × Nat × Nat) : List Value := [.slice (some ⟨e.2.1, 0, none⟩) (e.1.f3.length + 8) e.2.2]
/-- a play that is being handed over, as the loops find it -/
structure HandL (w : World) (p0 p1 : Int) (A : Option Addr) (n c : Nat) (vF vN : Value) (fs : List (List Value)) (L : List (S31 × Nat × Nat)) (wr : World) : Prop where
  below : Below w.heap.size w wr
  box : wr.heap[w.heap.size]? = some (.cells #[.int .i64 p0, .int .i64 p1, .slice A n c] 24 (0, 0))
  hb : wr.heap[w.heap.size + 1]? = some (.cells #[.int .i64 p0, .int .i64 p1, .slice A n c, vF, vN] 37 (0, 0))
  F : (Kd.raw 7).R 31 wr w.heap.size (fun _ => True) vF fs
  N : (Kd.raw 1).R 29 wr w.heap.size (fun _ => True) vN (L.map nameC)
  T : ∀ e ∈ L, e.1.f3.length + 8 ≤ e.2.2 ∧ Kd.R Kd.string 9 wr w.heap.size (fun _ => True) (.slice (some ⟨e.2.1, 0, none⟩) (e.1.f3.length + 8) e.2.2) (twinL e.1.f3)
theorem HandL.next {w : World} {p0 p1 : Int} {A : Option Addr} {n c : Nat} {vF vN : Value} {fs : List (List Value)} {L : List (S31 × Nat × Nat)} {wr w2 : World} (h : HandL w p0 p1 A n c vF vN fs L wr) (hb : Below wr.heap.size wr w2) : HandL w p0 p1 A n c vF vN fs L w2 :=
  ⟨below_then h.below h.below.size hb, (hb.block _ (blk_lt h.box)).trans h.box, (hb.block _ (blk_lt h.hb)).trans h.hb, Kd.R_below h.F hb, Kd.R_below h.N hb, fun e he => ⟨(h.T e he).1, Kd.R_below (h.T e he).2 hb⟩⟩
/-- a play that was handed over -/
structure HandAt (W : World) (base g : Nat) (p0 p1 : Int) (n F cF : Nat) (vN : Value) (L : List (S31 × Nat × Nat)) : Prop where
  blk : W.heap[g]? = some (.cells #[.int .i64 p0, .int .i64 p1, .slice (some ⟨F, 0, none⟩) n cF, .slice (some ⟨F, 0, none⟩) (n + 8) cF, vN] 37 (0, 0))
  full : (Kd.raw 7).R 31 W base (fun _ => True) (.slice (some ⟨F, 0, none⟩) (n + 8) cF) (L.map fullC ++ List.replicate 8 markC)
  names : (Kd.raw 1).R 29 W base (fun _ => True) vN (L.map nameC)
  twins : ∀ e ∈ L, e.1.f3.length + 8 ≤ e.2.2 ∧ Kd.R Kd.string 9 W base (fun _ => True) (.slice (some ⟨e.2.1, 0, none⟩) (e.1.f3.length + 8) e.2.2) (twinL e.1.f3)
  len : L.length = n
  room : n + 8 ≤ cF
set_option maxHeartbeats 4000000 in
set_option maxRecDepth 100000 in
theorem hand_calls (p0 p1 : Int) (acts : List S31) (ha : ∀ a ∈ acts, Aok a) (hn : acts.length ≤ 1048576) (A : Option Addr) (c : Nat) (w : World) (hC : Kd.C k31 w A acts.length acts) (hc : acts.length ≤ c) : Calls Tryz.prog 9 #[.agg #[.int .i64 p0, .int .i64 p1, .slice A acts.length c]] w fun e w' => ∃ g F cF vN L, e = .returned (.pointer (some ⟨g, 0, none⟩)) ∧ L.map (fun e : S31 × Nat × Nat => e.1) = acts ∧ HandAt w' w.heap.size g p0 p1 acts.length F cF vN L ∧ w.heap.size ≤ g ∧ Below w.heap.size w w' := by
  have HA := Aside0.mk ha
  have HC := Aside0.mk (And.intro hC hc)
  clear ha hC hc
  go_enter Tryz.func9, Tryz.ntmps9
  go_wp2_with fail
  have H0 : ∀ W, W = ((w.alloc (.cells #[.int .i64 p0, .int .i64 p1, .slice A acts.length c] 24)).alloc (.cells #[.int .i64 p0, .int .i64 p1, .slice A acts.length c, .slice none 0 0, .slice none 0 0] 37)) → HandL w p0 p1 A acts.length c (.slice none 0 0) (.slice none 0 0) ([].map fullC) [] W := fun W hW => by
    have hs : (w.alloc (.cells #[.int .i64 p0, .int .i64 p1, .slice A acts.length c] 24)).heap.size = w.heap.size + 1 := by simp
    have hb : Below w.heap.size w W := by rw [hW]; exact below_alloc (below_alloc (Below.refl _ _) _) _
    refine ⟨hb, ?_, ?_, Kd.R_nil _ _ _ _ _, Kd.R_nil _ _ _ _ _, fun e he => absurd he (List.not_mem_nil)⟩
    · rw [hW]; exact ((below_alloc (Below.refl _ _) _).block _ (by rw [hs]; omega)).trans (blk_new w _)
    · have := blk_new (w.alloc (.cells #[.int .i64 p0, .int .i64 p1, .slice A acts.length c] 24)) (.cells #[.int .i64 p0, .int .i64 p1, .slice A acts.length c, .slice none 0 0, .slice none 0 0] 37)
      rw [hs] at this
      rw [hW]; exact this
  have H1 := Aside0.mk (H0 _ rfl)
  clear H0
  go_loopw [4, 5, 6] (fun v4 v5 v6 wr => ∃ (k : Nat), v4 = .int .i64 (k : Int) ∧ k ≤ acts.length ∧ Aside0 (∃ L vF vN, L.map (fun e : S31 × Nat × Nat => e.1) = acts.take k ∧ HandL w p0 p1 A acts.length c vF vN (L.map fullC) L wr)) (fun v4 _ _ _ => acts.length - (intOf v4).toNat)
  case atStart => exact ⟨0, rfl, Nat.zero_le _, ⟨[], _, _, rfl, H1.out⟩⟩
  case round =>
    clear H1
    obtain ⟨k, rfl, hk, HL⟩ := hrel
    obtain ⟨L, vF, vN, hLk, hL⟩ := HL.out
    have HLK := Aside0.mk hLk
    have HH := Aside0.mk hL
    have HLL : Aside0 (L.length = k) := ⟨by have := congrArg List.length hLk; rw [List.length_map, List.length_take] at this; omega⟩
    clear hLk hL HL
    have kb : wr.cell? ⟨w.heap.size, 2, none⟩ = some (.slice A acts.length c) := by rw [blk_cell HH.out.box]; rfl
    by_cases hlt : k < acts.length
    · have b1 : decide ((k : Int) < (acts.length : Int)) = true := decide_eq_true (by omega)
      have p0' : (0 : Int) ≤ (k : Int) := by omega
      have p1' : (k : Int) < (acts.length : Int) := by omega
      obtain ⟨ad, A3, c3, rfl, x0, x1, x2, x3, x4, x5, x6, hx3, hxC⟩ := at_T31 (Kd.C_below HC.out.1 HH.out.below) (k : Int) p0' p1'
      rw [Int.toNat_natCast] at x0 x1 x2 x3 x4 x5 x6
      have hrX : acts[k]? = some (rd_T31 acts (k : Int)) := by unfold rd_T31; rw [Int.toNat_natCast, List.getD_eq_getElem?_getD, List.getElem?_eq_getElem hlt]; rfl
      obtain ⟨X, hX⟩ : ∃ X, X = rd_T31 acts (k : Int) := ⟨_, rfl⟩
      rw [← hX] at x0 x1 x2 x3 x4 x5 x6 hx3 hxC hrX
      clear hX
      have HXA := Aside0.mk (HA.out X (List.mem_of_getElem? hrX))
      have HXR := Aside0.mk hrX
      have HXC := Aside0.mk (And.intro hxC hx3)
      clear hxC hx3 hrX
      have hwk : wrap64 ((k : Int) + 1) = (k : Int) + 1 := wrap_next k (by omega)
      have HMS : Aside0 (acts.length - (intOf (Value.int IntKind.i64 ((k : Int) + 1))).toNat < acts.length - (intOf (Value.int IntKind.i64 (k : Int))).toNat) := ⟨meas_step _ _ hlt⟩
      obtain ⟨W1, hW1⟩ : ∃ W1, W1 = wr.alloc (.cells #[.int .i64 X.f0, .string X.f1, .string X.f2, .slice A3 X.f3.length c3, .string X.f4, .int .i64 X.f5, .int .i64 X.f6] 31 (0, 0)) := ⟨_, rfl⟩
      have HW1 : Aside0 (Below wr.heap.size wr W1 ∧ W1.heap[wr.heap.size]? = some (.cells #[.int .i64 X.f0, .string X.f1, .string X.f2, .slice A3 X.f3.length c3, .string X.f4, .int .i64 X.f5, .int .i64 X.f6] 31 (0, 0)) ∧ W1.heap.size = wr.heap.size + 1) := ⟨by rw [hW1]; exact ⟨below_alloc (Below.refl _ _) _, blk_new wr _, by simp⟩⟩
      have j3 : (wr.alloc (.cells #[.int .i64 X.f0, .string X.f1, .string X.f2, .slice A3 X.f3.length c3, .string X.f4, .int .i64 X.f5, .int .i64 X.f6] 31 (0, 0))).cell? ⟨wr.heap.size, 3, none⟩ = some (.slice A3 X.f3.length c3) := by rw [blk_cell (blk_new wr _)]; rfl
      go_wp2_with fail
      rw [← hW1]
      clear hW1 j3
      refine (twin_calls X.f3 A3 c3 W1 (Kd.C_below HXC.out.1 HW1.out.1) HXC.out.2 HXA.out.count).mono ?_; rintro e w2 ⟨t, cap, rfl, hcap, ht, hR, hb2⟩
      have HT2 := Aside0.mk (And.intro hR hcap)
      have HH2 : Aside0 (HandL w p0 p1 (some ad) acts.length c vF vN (L.map fullC) L w2 ∧ w2.heap[wr.heap.size]? = some (.cells #[.int .i64 X.f0, .string X.f1, .string X.f2, .slice A3 X.f3.length c3, .string X.f4, .int .i64 X.f5, .int .i64 X.f6] 31 (0, 0)) ∧ Below wr.heap.size wr w2) := ⟨(HH.out.next HW1.out.1).next hb2, (hb2.block _ (blk_lt HW1.out.2.1)).trans HW1.out.2.1, below_then HW1.out.1 HW1.out.1.size hb2⟩
      have hsz2 := HH2.out.1.below.size
      have HLN : Aside0 (((L.map nameC).length + 1) * 24 ≤ 140737488355328 ∧ ((L.map fullC).length + 1) * 96 ≤ 140737488355328) := ⟨by rw [List.length_map, List.length_map, HLL.out]; omega⟩
      have kn : ∀ o2, (w2.alloc o2).cell? ⟨w.heap.size + 1, 4, none⟩ = some vN := fun o2 => by rw [blk_cell (((below_alloc (Below.refl _ _) o2).block _ (blk_lt HH2.out.1.hb)).trans HH2.out.1.hb)]; rfl
      have kn2 : w2.cell? ⟨w.heap.size + 1, 4, none⟩ = some vN := by rw [blk_cell HH2.out.1.hb]; rfl
      clear hR hb2
      go_wp2_with (at_builtin; refine raw_app w2 w.heap.size 35 29 (.slice none 0 0) 1 24 rfl (.tmp 30) (.tmp 32) rfl Tryz.underlying35 info29z rfl (by decide) (by decide) vN (L.map nameC) (nameC (X, t, cap)) rfl rfl (by exact HH2.out.1.N) rfl (by intro u hu; cases hu with | head => rfl | tail _ h => cases h) (by exact hsz2) (by exact HLN.out.1) ?_; intro v1 w3 hN3 hg3 hv3; obtain ⟨g4, c4, e4, _⟩ := Kd.R_form hN3 (by simp); subst e4; have HN3 := Aside0.mk (And.intro hN3 (And.intro hg3 hv3)); have HS3 : Aside0 (Still w2 w3 (fun k => some k = vN.ownBlock)) := ⟨Still.grown hg3 (fun k hk => hk.symm)⟩; clear hN3 hg3 hv3; have HB3 : Aside0 (w3.heap[w.heap.size + 1]? = some (.cells #[.int .i64 p0, .int .i64 p1, .slice (some ad) acts.length c, vF, vN] 37 (0, 0)) ∧ w3.heap[wr.heap.size]? = some (.cells #[.int .i64 X.f0, .string X.f1, .string X.f2, .slice A3 X.f3.length c3, .string X.f4, .int .i64 X.f5, .int .i64 X.f6] 31 (0, 0))) := ⟨HS3.out.blk HH2.out.1.hb (fun e => Kd.R_ne HH2.out.1.N HH2.out.1.hb (by decide) e), HS3.out.blk HH2.out.2.1 (fun e => Kd.R_ne HH2.out.1.N HH2.out.2.1 (by decide) e)⟩; have m4 : w3.cell? ⟨w.heap.size + 1, 4, none⟩ = some vN := (by rw [blk_cell HB3.out.1]; rfl); have f4 : w3.frozen? ⟨w.heap.size + 1, 4, none⟩ = false := blk_frozen HB3.out.1 _; have j3 : ∀ v, (w3.setCell ⟨w.heap.size + 1, 4, none⟩ v).cell? ⟨wr.heap.size, 3, none⟩ = some (.slice A3 X.f3.length c3) := (fun v => by rw [blk_cell (blk_far HB3.out.2 (blk_ne HB3.out.2 HB3.out.1 (by decide)) v)]; rfl); have g3 : ∀ v i, (w3.setCell ⟨w.heap.size + 1, 4, none⟩ v).frozen? ⟨wr.heap.size, i, none⟩ = false := (fun v i => blk_frozen (blk_far HB3.out.2 (blk_ne HB3.out.2 HB3.out.1 (by decide)) v) i))
      obtain ⟨V1, hV1⟩ : ∃ V1, V1 = Value.slice (some ⟨g4, 0, none⟩) (L.map nameC ++ [nameC (X, t, cap)]).length c4 := ⟨_, rfl⟩
      rw [← hV1] at HN3
      have hV1' : Value.slice (some ⟨g4, 0, none⟩) (L.length + 1) c4 = V1 := by rw [hV1]; simp
      obtain ⟨W4, hW4⟩ : ∃ W4, W4 = (w3.setCell ⟨w.heap.size + 1, 4, none⟩ V1).setCell ⟨wr.heap.size, 3, none⟩ (.slice (some ⟨t, 0, none⟩) X.f3.length cap) := ⟨_, rfl⟩
      have HW4 : Aside0 (Still w2 W4 (fun k => k = w.heap.size + 1 ∨ some k = vN.ownBlock ∨ k = wr.heap.size) ∧ Still w3 W4 (fun k => k = w.heap.size + 1 ∨ k = wr.heap.size)) := ⟨by
        have h1 : Still w3 W4 (fun k => k = w.heap.size + 1 ∨ k = wr.heap.size) := by
          rw [hW4]
          exact (Still.set _ _ _ (Or.inl rfl)).trans (Still.set (S := fun k => k = w.heap.size + 1 ∨ k = wr.heap.size) _ _ _ (Or.inr rfl)) (fun _ _ h => h)
        exact ⟨(HS3.out.mono (fun _ h => Or.inr (Or.inl h))).trans h1 (fun k _ h => Or.elim h (fun h => Or.inl h) (fun h => Or.inr (Or.inr h))), h1⟩⟩
      have HWR4 : Aside0 (Still wr W4 (fun k => k = w.heap.size + 1 ∨ some k = vN.ownBlock)) := ⟨(Still.of (S := fun k => k = w.heap.size + 1 ∨ some k = vN.ownBlock) HH2.out.2.2).trans HW4.out.1 (fun k hk h => by
        rcases h with h | h | h
        · exact .inl h
        · exact .inr h
        · omega)⟩
      have H4 : Aside0 (W4.heap[w.heap.size + 1]? = some (.cells #[.int .i64 p0, .int .i64 p1, .slice (some ad) acts.length c, vF, V1] 37 (0, 0)) ∧ W4.heap[wr.heap.size]? = some (.cells #[.int .i64 X.f0, .string X.f1, .string X.f2, .slice (some ⟨t, 0, none⟩) X.f3.length cap, .string X.f4, .int .i64 X.f5, .int .i64 X.f6] 31 (0, 0)) ∧ (Kd.raw 7).R 31 W4 w.heap.size (fun _ => True) vF (L.map fullC) ∧ (Kd.raw 1).R 29 W4 w.heap.size (fun _ => True) V1 (L.map nameC ++ [nameC (X, t, cap)])) := ⟨by
        have n1 := blk_ne HB3.out.2 HB3.out.1 (by decide)
        refine ⟨?_, ?_, ?_, ?_⟩
        · rw [hW4]; exact blk_far (blk_set HB3.out.1 4 _) (Ne.symm n1) _
        · rw [hW4]; exact blk_set (blk_far HB3.out.2 n1 _) 3 _
        · exact R_still HH.out.F HWR4.out (fun k cells q hq hk e => by
            have hq' : q = 31 := by simpa [Kd.raw] using hq
            subst hq'
            rcases e with rfl | e
            · exact absurd rfl (blk_ne hk HH.out.hb (by decide))
            · obtain ⟨_, hy⟩ := Kd.R_typed HH.out.N k e.symm
              exact absurd rfl (blk_ne hk hy (by decide)))
        · exact R_still HN3.out.1 HW4.out.2 (fun k cells q hq hk e => by
            have hq' : q = 29 := by simpa [Kd.raw] using hq
            subst hq'
            rcases e with rfl | rfl
            · exact absurd rfl (blk_ne hk HB3.out.1 (by decide))
            · exact absurd rfl (blk_ne hk HB3.out.2 (by decide)))⟩
      have HSZ4 : Aside0 (w.heap.size ≤ W4.heap.size) := ⟨Nat.le_trans hsz2 HW4.out.1.size⟩
      rw [hV1', ← hW4]
      clear hW4 hV1' kn kn2 m4 f4 j3 g3
      refine region_facts (ws := [7, 10]) (G := fun e w' => Aside0 ((e = 0 → Below W4.heap.size W4 w') ∧ (e = 1 → Still W4 w' (fun k => some k = vF.ownBlock)) ∧ (e = 2 → ∃ vF1, Still W4 w' (fun k => k = w.heap.size + 1 ∨ some k = vF.ownBlock) ∧ w'.heap[w.heap.size + 1]? = some (.cells #[.int .i64 p0, .int .i64 p1, .slice (some ad) acts.length c, vF1, V1] 37 (0, 0)) ∧ (Kd.raw 7).R 31 w' w.heap.size (fun _ => True) vF1 (L.map fullC ++ [fullC (X, t, cap)])))) (φs := [Fact.eq (.pointer (some ⟨w.heap.size + 1, 0, none⟩)), Fact.eq (.pointer (some ⟨w.heap.size + 1, 0, none⟩)), Fact.eq (.pointer (some ⟨w.heap.size + 1, 0, none⟩)), Fact.eq (.pointer (some ⟨w.heap.size + 1, 3, none⟩)), Fact.eq vF, Fact.eq (.agg #[.int .i64 X.f0, .string X.f1, .string X.f2, .slice (some ⟨t, 0, none⟩) X.f3.length cap, .string X.f4, .int .i64 X.f5, .int .i64 X.f6]), (⟨fun e x w' => e = 0 → ∃ ad, x = .slice (some ad) 1 1 ∧ ∀ j u, (fullC (X, t, cap))[j]? = some u → w'.cell? (ad.add j) = some u, fun _ _ _ _ h hb he => by obtain ⟨ad, h1, h2⟩ := h he; exact ⟨ad, h1, fun j u hu => pw_cell_below hb (h2 j u hu)⟩⟩ : Fact), (⟨fun e x w' => 1 ≤ e ∧ (Kd.raw 7).R 31 w' w.heap.size (fun _ => True) x (L.map fullC ++ [fullC (X, t, cap)]), fun _ _ _ _ h hb => ⟨h.1, Kd.R_below h.2 hb⟩⟩ : Fact), Fact.eq (.pointer (some ⟨w.heap.size + 1, 0, none⟩)), Fact.eq (.pointer (some ⟨w.heap.size + 1, 3, none⟩)), Fact.none]) (n := 11) (m := 79) (by kernel_rfl) (by kernel_rfl) rfl rfl (by kernel_rfl) (fun _ _ _ h hb => ⟨fun he => below_then (h.out.1 he) (h.out.1 he).size hb, fun he => (h.out.2.1 he).then hb, fun he => by obtain ⟨vF1, h1, h2, h3⟩ := h.out.2.2 he; exact ⟨vF1, h1.then hb, (hb.block _ (blk_lt h2)).trans h2, Kd.R_below h3 hb⟩⟩) (⟨fun _ => below_drew (Below.refl _ _), fun he => (by cases he), fun he => (by cases he)⟩) ⟨?o0, ?o1, ?o2, ?o3, ?o4, ?o5, ?o6, ?o7, ?o8, ?o9, ?o10, trivial⟩ ?fin
      case o0 =>
        refine ask_val [.fix 3 _] rfl 42 rfl (.inl rfl) ⟨⟨by kernel_rfl, by conv => lhs; whnf⟩, trivial⟩ ?_
        dsimp only [Has, Fact.eq]
        intro e ρ w' hc hf hg hG h3
        go_simp
        first | done | rfl
      case o1 =>
        refine ask_val [.fix 3 _] rfl 43 rfl (.inl rfl) ⟨⟨by kernel_rfl, by conv => lhs; whnf⟩, trivial⟩ ?_
        dsimp only [Has, Fact.eq]
        intro e ρ w' hc hf hg hG h3
        go_simp
        first | done | rfl
      case o2 =>
        refine ask_val [.op 43 1 (Fact.eq _)] rfl 44 rfl (.inl rfl) ⟨⟨by kernel_rfl, rfl⟩, trivial⟩ ?_
        dsimp only [Has, Fact.eq]
        intro e ρ w' hc hf hg hG h43
        go_simp
        first | done | rfl
      case o3 =>
        refine ask_val [.op 44 2 (Fact.eq _)] rfl 45 rfl (.inl rfl) ⟨⟨by kernel_rfl, rfl⟩, trivial⟩ ?_
        dsimp only [Has, Fact.eq]
        intro e ρ w' hc hf hg hG h44
        go_simp
        first | done | rfl
      case o4 =>
        refine ask_step [.op 45 3 (Fact.eq _)] rfl 46 rfl (.inl rfl) ⟨⟨by kernel_rfl, rfl⟩, trivial⟩ 0 0 (by kernel_rfl) ?_
        dsimp only [Has, Fact.eq]
        intro e ρ w' hp hq hc hf hg hG h45
        obtain rfl : e = 0 := by omega
        have hbk := ((hG.out.1 rfl).block _ (blk_lt H4.out.1)).trans H4.out.1
        have c0 : w'.cell? ⟨w.heap.size + 1, 3, none⟩ = some vF := by rw [blk_cell hbk]; rfl
        refine ⟨_, w', ?_, rfl, Below.refl _ _⟩
        go_simp
        first | done | rfl
      case o5 =>
        refine ask_step [.fix 5 _] rfl 47 rfl (.inl rfl) ⟨⟨by kernel_rfl, by conv => lhs; whnf⟩, trivial⟩ 0 0 (by kernel_rfl) ?_
        dsimp only [Has, Fact.eq]
        intro e ρ w' hp hq hc hf hg hG h5
        obtain rfl : e = 0 := by omega
        have hbk := ((hG.out.1 rfl).block _ (blk_lt H4.out.2.1)).trans H4.out.2.1
        have c0 : w'.cell? ⟨wr.heap.size, 0, none⟩ = some (.int .i64 X.f0) := by rw [blk_cell hbk]; rfl
        have c1 : w'.cell? ⟨wr.heap.size, 1, none⟩ = some (.string X.f1) := by rw [blk_cell hbk]; rfl
        have c2 : w'.cell? ⟨wr.heap.size, 2, none⟩ = some (.string X.f2) := by rw [blk_cell hbk]; rfl
        have c3 : w'.cell? ⟨wr.heap.size, 3, none⟩ = some (.slice (some ⟨t, 0, none⟩) X.f3.length cap) := by rw [blk_cell hbk]; rfl
        have c4 : w'.cell? ⟨wr.heap.size, 4, none⟩ = some (.string X.f4) := by rw [blk_cell hbk]; rfl
        have c5 : w'.cell? ⟨wr.heap.size, 5, none⟩ = some (.int .i64 X.f5) := by rw [blk_cell hbk]; rfl
        have c6 : w'.cell? ⟨wr.heap.size, 6, none⟩ = some (.int .i64 X.f6) := by rw [blk_cell hbk]; rfl
        refine ⟨_, w', ?_, rfl, Below.refl _ _⟩
        go_simp
        first | done | rfl
      case o6 =>
        refine ask_step [.op 47 5 (Fact.eq _)] rfl 48 rfl (.inl rfl) ⟨⟨by kernel_rfl, rfl⟩, trivial⟩ 0 0 (by kernel_rfl) ?_
        dsimp only [Has, Fact.eq]
        intro e ρ w' hp hq hc hf hg hG h47
        refine ⟨.slice (some ⟨w'.heap.size, 0, none⟩) 1 1, w'.alloc (.cells #[.int .i64 X.f0, .string X.f1, .string X.f2, .slice (some ⟨t, 0, none⟩) X.f3.length cap, .string X.f4, .int .i64 X.f5, .int .i64 X.f6] 31), ?_, fun _ => ⟨_, rfl, fun j u hu => by rw [add_plain, blk_cell (blk_new w' _) j]; simpa [fullC] using hu⟩, below_alloc (Below.refl _ _) _⟩
        go_simp
        first | done | rfl
      case o7 =>
        refine ask_wval [.op 46 4 (Fact.eq _), .op 48 6 _] rfl 49 rfl (.inl rfl) ⟨⟨by kernel_rfl, rfl⟩, ⟨by kernel_rfl, rfl⟩, trivial⟩ 0 0 (by kernel_rfl) ?_
        dsimp only [Has, Fact.eq]
        intro e ρ w' hp hq hc hf hg hG h46 h48
        obtain rfl : e = 0 := by omega
        obtain ⟨ad8, e8, hc8⟩ := h48 rfl
        have hb0 := hG.out.1 rfl
        obtain ⟨v1, w1, hrun, hR3, hg3, _⟩ := run_append_raw w' w.heap.size 22 31 (.agg #[(.int .i64 0), (.string ⟨#[]⟩), (.string ⟨#[]⟩), (.slice none 0 0), (.string ⟨#[]⟩), (.int .i64 0), (.int .i64 0)]) 7 96 Tryz.underlying22 info31z rfl (by decide) (by decide) vF (L.map fullC) (fullC (X, t, cap)) ad8 1 22 (Kd.R_below H4.out.2.2.1 hb0) hc8 rfl (by intro u hu; simp only [fullC, List.mem_cons, List.not_mem_nil, or_false] at hu; rcases hu with rfl | rfl | rfl | rfl | rfl | rfl | rfl <;> rfl) (Nat.le_trans HSZ4.out hb0.size) HLN.out.2
        refine ⟨v1, w1, ?_, ⟨Nat.le_refl 1, hR3⟩, ⟨fun he => (by cases he), fun _ => (Still.of hb0).trans (Still.grown hg3 (S := fun k => some k = vF.ownBlock) (fun k hk => hk.symm)) (fun _ _ h => h), fun he => (by cases he)⟩, ⟨fun _ h => h, fun _ h => h, fun _ h => h, fun _ h => h, fun _ h => h, fun _ h => h, fun _ _ he => absurd he (Nat.succ_ne_zero _), fun _ h => absurd h.1 (by decide), fun _ h => h, fun _ h => h, fun _ h => h, trivial⟩⟩
        unfold execOp
        simp only [resolve, invoke, builtin, Sem.run_bind, Sem.run_pure, Result.andThen_ok, List.map_toArray, List.map_cons, List.map_nil, e8, h46, hrun]
      case o8 =>
        refine ask_val [.op 42 0 (Fact.eq _)] rfl 50 rfl (.inl rfl) ⟨⟨by kernel_rfl, rfl⟩, trivial⟩ ?_
        dsimp only [Has, Fact.eq]
        intro e ρ w' hc hf hg hG h42
        go_simp
        first | done | rfl
      case o9 =>
        refine ask_val [.op 50 8 (Fact.eq _)] rfl 51 rfl (.inl rfl) ⟨⟨by kernel_rfl, rfl⟩, trivial⟩ ?_
        dsimp only [Has, Fact.eq]
        intro e ρ w' hc hf hg hG h50
        go_simp
        first | done | rfl
      case o10 =>
        refine ask_store [.op 51 9 (Fact.eq _), .op 49 7 _] rfl rfl (.inl rfl) ⟨⟨by kernel_rfl, rfl⟩, ⟨by kernel_rfl, rfl⟩, trivial⟩ 1 1 (by kernel_rfl) ?_
        dsimp only [Has, Fact.eq]
        intro e ρ w' hp hq hc hf hg hG h51 h49
        obtain rfl : e = 1 := by omega
        have hs1 := hG.out.2.1 rfl
        have hbk := hs1.blk H4.out.1 (fun e => Kd.R_ne H4.out.2.2.1 H4.out.1 (by decide) e)
        obtain ⟨g9, c9, e9, _⟩ := Kd.R_form h49.2 (by simp)
        have c0 : w'.cell? ⟨w.heap.size + 1, 3, none⟩ = some vF := by rw [blk_cell hbk]; rfl
        have f0 : w'.frozen? ⟨w.heap.size + 1, 3, none⟩ = false := blk_frozen hbk _
        refine ⟨w'.setCell ⟨w.heap.size + 1, 3, none⟩ (ρ (.tmp 49)), ?_, trivial, ⟨fun he => (by cases he), fun he => (by cases he), fun _ => ⟨ρ (.tmp 49), (hs1.mono (fun _ h => Or.inr h)).trans (Still.set (S := fun k => k = w.heap.size + 1 ∨ some k = vF.ownBlock) _ _ _ (Or.inl rfl)) (fun _ _ h => h), blk_set hbk 3 _, R_still (S := fun k => k = w.heap.size + 1) h49.2 (Still.set _ _ _ rfl) (fun k cells q hq hk e => by subst e; have hq' : q = 31 := (by simpa [Kd.raw] using hq); subst hq'; exact absurd rfl (blk_ne hk hbk (by decide)))⟩⟩, ⟨fun _ h => h, fun _ h => h, fun _ h => h, fun _ h => h, fun _ h => h, fun _ h => h, fun _ _ he => absurd he (by decide), fun _ h => ⟨by decide, R_still (S := fun k => k = w.heap.size + 1) h.2 (Still.set _ _ _ rfl) (fun k cells q hq hk e => by subst e; have hq' : q = 31 := (by simpa [Kd.raw] using hq); subst hq'; exact absurd rfl (blk_ne hk hbk (by decide)))⟩, fun _ h => h, fun _ h => h, fun _ h => h, trivial⟩⟩
        rw [e9]
        go_simp
        first | done | rfl
      case fin =>
        intro w' hG
        refine fin_eq (fin_eq (fin_eq (fin_eq (fin_eq (fin_eq (fin_fact (fun v6 hv6 => fin_fact (fun v7 hv7 => fin_eq (fin_eq (fin_fact (fun v10 hv10 => fin_nil (a' := ?_) ?_ ?_)))))))))))
        rotate_left
        · simp only [Act.put, List.setIfInBounds_toArray, List.set_cons_zero, List.set_cons_succ]
          rfl
        obtain ⟨vF1, hs9, hb9, hF9⟩ := hG.out.2.2 rfl
        have HNX : Aside0 (HandL w p0 p1 (some ad) acts.length c vF1 V1 ((L ++ [(X, t, cap)]).map fullC) (L ++ [(X, t, cap)]) w') := ⟨by
          have hsW : Still wr w' (fun k => k = w.heap.size + 1 ∨ some k = vN.ownBlock ∨ some k = vF.ownBlock) := (HWR4.out.mono (fun k h => Or.elim h Or.inl (fun h => Or.inr (Or.inl h)))).trans hs9 (fun k _ h => Or.elim h Or.inl (fun h => Or.inr (Or.inr h)))
          have tN : ∀ k, some k = vN.ownBlock → ∃ cells, wr.heap[k]? = some (.cells cells 29 (0, 0)) := fun k h => Kd.R_typed HH.out.N k h.symm
          have tF : ∀ k, some k = vF.ownBlock → ∃ cells, wr.heap[k]? = some (.cells cells 31 (0, 0)) := fun k h => Kd.R_typed HH.out.F k h.symm
          have hlow : ∀ k, (k = w.heap.size + 1 ∨ some k = vN.ownBlock ∨ some k = vF.ownBlock) → w.heap.size ≤ k := fun k h => by
            rcases h with h | h | h
            · omega
            · exact Kd.R_base HH.out.N k h.symm
            · exact Kd.R_base HH.out.F k h.symm
          have no9 : ∀ (k : Nat) (cells : Array Value) (q : Nat), q = 9 ∨ q = 24 → wr.heap[k]? = some (.cells cells q (0, 0)) → ¬ (k = w.heap.size + 1 ∨ some k = vN.ownBlock ∨ some k = vF.ownBlock) := fun k cells q hq hk h => by
            rcases h with rfl | h | h
            · exact absurd rfl (blk_ne hk HH.out.hb (by rcases hq with rfl | rfl <;> decide))
            · obtain ⟨_, hy⟩ := tN k h; exact absurd rfl (blk_ne hk hy (by rcases hq with rfl | rfl <;> decide))
            · obtain ⟨_, hy⟩ := tF k h; exact absurd rfl (blk_ne hk hy (by rcases hq with rfl | rfl <;> decide))
          refine ⟨HH.out.below.trans (hsW.below HH.out.below.size hlow), hsW.blk HH.out.box (no9 _ _ 24 (.inr rfl) HH.out.box), hb9, by rw [List.map_append]; exact hF9, ?_, fun e he => ?_⟩
          · rw [List.map_append]
            refine R_still H4.out.2.2.2 hs9 (fun k cells q hq hk e => ?_)
            have hq' : q = 29 := by simpa [Kd.raw] using hq
            subst hq'
            rcases e with rfl | e
            · exact absurd rfl (blk_ne hk H4.out.1 (by decide))
            · obtain ⟨_, hy⟩ := Kd.R_typed H4.out.2.2.1 k e.symm
              exact absurd rfl (blk_ne hk hy (by decide))
          · rcases List.mem_append.1 he with he | he
            · refine ⟨(HH.out.T e he).1, R_still (HH.out.T e he).2 hsW (fun k cells q hq hk => no9 k cells q (.inl (by simpa [Kd.string, Kd.scalar] using hq)) hk)⟩
            · obtain rfl := List.mem_singleton.1 he
              refine ⟨HT2.out.2, ?_⟩
              have h0 := Kd.R_lower HT2.out.1 (base' := w.heap.size) (by have := HW1.out.2.2; have := HH.out.below.size; omega)
              have h4 := R_still h0 HW4.out.1 (fun k cells q hq hk e => by
                have hq' : q = 9 := by simpa [Kd.string, Kd.scalar] using hq
                subst hq'
                rcases e with rfl | e | rfl
                · exact absurd rfl (blk_ne hk HH2.out.1.hb (by decide))
                · obtain ⟨_, hy⟩ := Kd.R_typed HH2.out.1.N k e.symm
                  exact absurd rfl (blk_ne hk hy (by decide))
                · exact absurd rfl (blk_ne hk HH2.out.2.1 (by decide)))
              refine R_still h4 hs9 (fun k cells q hq hk e => ?_)
              have hq' : q = 9 := by simpa [Kd.string, Kd.scalar] using hq
              subst hq'
              rcases e with rfl | e
              · exact absurd rfl (blk_ne hk H4.out.1 (by decide))
              · obtain ⟨_, hy⟩ := Kd.R_typed H4.out.2.2.1 k e.symm
                exact absurd rfl (blk_ne hk hy (by decide))⟩
        have HLN1 : Aside0 ((L ++ [(X, t, cap)]).map (fun e : S31 × Nat × Nat => e.1) = acts.take (k + 1)) := ⟨by rw [List.map_append, HLK.out, List.take_add_one, HXR.out]; rfl⟩
        have HK1 : Aside0 (k + 1 ≤ acts.length) := ⟨hlt⟩
        clear hG hs9 hb9 hF9
        go_wp2_with fail
        go_roundw
        case rel => exact ⟨k + 1, by first | rfl | (rw [hwk]; rfl), HK1.out, ⟨_, _, _, HLN1.out, HNX.out⟩⟩
        case measure => first | exact HMS.out | (rw [hwk]; exact HMS.out)
    · have b1 : decide ((k : Int) < (acts.length : Int)) = false := decide_eq_false (by omega)
      have HLE : Aside0 (L.map (fun e : S31 × Nat × Nat => e.1) = acts) := ⟨by rw [HLK.out, List.take_of_length_le (by omega)]⟩
      have HLL2 : Aside0 (L.length = acts.length) := ⟨by rw [HLL.out]; omega⟩
      have HN2 := Aside0.mk hn
      have b4 : (k < acts.length) = False := eq_false hlt
      have b5 : decide (k < acts.length) = false := decide_eq_false hlt
      clear hlt HLK HLL hk hn
      obtain ⟨wo, rfl⟩ : ∃ wo : World, wo = wr := ⟨_, rfl⟩
      go_wp2_with fail
      go_loopw [7] (fun v7 wr => ∃ (i : Nat), v7 = .int .i64 (i : Int) ∧ i ≤ 8 ∧ Aside0 (∃ vF vN, HandL w p0 p1 A acts.length c vF vN (L.map fullC ++ List.replicate i markC) L wr)) (fun v7 _ => 8 - (intOf v7).toNat)
      case atStart => exact ⟨0, rfl, by omega, ⟨_, _, by simpa using HH.out⟩⟩
      case round =>
        clear HH vF vN kb
        obtain ⟨i, rfl, hi, HL⟩ := hrel
        obtain ⟨vF, vN, hL⟩ := HL.out
        have HH := Aside0.mk hL
        clear hL HL
        by_cases hlt : i < 8
        · have b2 : decide ((i : Int) < 8) = true := decide_eq_true (by omega)
          have b3 : (i < 8) = True := eq_true hlt
          have b4 : decide (i < 8) = true := decide_eq_true hlt
          have hwi : wrap64 ((i : Int) + 1) = (i : Int) + 1 := wrap_next i (by omega)
          have HMS : Aside0 (8 - (intOf (Value.int IntKind.i64 ((i : Int) + 1))).toNat < 8 - (intOf (Value.int IntKind.i64 (i : Int))).toNat) := ⟨meas_step _ _ hlt⟩
          have HI1 : Aside0 (i + 1 ≤ 8) := ⟨hlt⟩
          have HLN : Aside0 (((L.map fullC ++ List.replicate i markC).length + 1) * 96 ≤ 140737488355328) := ⟨by rw [List.length_append, List.length_map, List.length_replicate, HLL2.out]; have := HN2.out; omega⟩
          clear hlt
          have kn : wr.cell? ⟨w.heap.size + 1, 3, none⟩ = some vF := by rw [blk_cell HH.out.hb]; rfl
          have hsz := HH.out.below.size
          go_wp2_with (at_builtin; refine raw_app wr w.heap.size 22 31 (.agg #[(.int .i64 0), (.string ⟨#[]⟩), (.string ⟨#[]⟩), (.slice none 0 0), (.string ⟨#[]⟩), (.int .i64 0), (.int .i64 0)]) 7 96 rfl (.tmp 60) (.tmp 62) rfl Tryz.underlying22 info31z rfl (by decide) (by decide) vF (L.map fullC ++ List.replicate i markC) markC rfl rfl (by exact HH.out.F) rfl (by intro u hu; simp only [markC, List.mem_cons, List.not_mem_nil, or_false] at hu; rcases hu with rfl | rfl | rfl | rfl | rfl | rfl | rfl <;> rfl) (by exact hsz) (by exact HLN.out) ?_; intro v1 w3 hF3 hg3 hv3; obtain ⟨g4, c4, e4, _⟩ := Kd.R_form hF3 (by rw [List.length_append]; exact Nat.succ_pos _); subst e4; have HF3 := Aside0.mk (And.intro hF3 (And.intro hg3 hv3)); have HS3 : Aside0 (Still wr w3 (fun k => some k = vF.ownBlock)) := ⟨Still.grown hg3 (fun k hk => hk.symm)⟩; clear hF3 hg3 hv3; have HB3 : Aside0 (w3.heap[w.heap.size + 1]? = some (.cells #[.int .i64 p0, .int .i64 p1, .slice A acts.length c, vF, vN] 37 (0, 0))) := ⟨HS3.out.blk HH.out.hb (fun e => Kd.R_ne HH.out.F HH.out.hb (by decide) e)⟩; have m4 : w3.cell? ⟨w.heap.size + 1, 3, none⟩ = some vF := (by rw [blk_cell HB3.out]; rfl); have f4 : w3.frozen? ⟨w.heap.size + 1, 3, none⟩ = false := blk_frozen HB3.out _)
          have HNX : Aside0 (∀ V, V = Value.slice (some ⟨g4, 0, none⟩) (L.map fullC ++ List.replicate i markC ++ [markC]).length c4 → HandL w p0 p1 A acts.length c V vN (L.map fullC ++ List.replicate (i + 1) markC) L (w3.setCell ⟨w.heap.size + 1, 3, none⟩ V)) := ⟨fun V hV => by
            rw [← hV] at HF3
            have hs : Still wr (w3.setCell ⟨w.heap.size + 1, 3, none⟩ V) (fun k => k = w.heap.size + 1 ∨ some k = vF.ownBlock) := (HS3.out.mono (fun _ h => Or.inr h)).trans (Still.set (S := fun k => k = w.heap.size + 1 ∨ some k = vF.ownBlock) _ _ _ (Or.inl rfl)) (fun _ _ h => h)
            have tF : ∀ k, some k = vF.ownBlock → ∃ cells, wr.heap[k]? = some (.cells cells 31 (0, 0)) := fun k h => Kd.R_typed HH.out.F k h.symm
            have no9 : ∀ (k : Nat) (cells : Array Value) (q : Nat), q = 9 ∨ q = 24 ∨ q = 29 → wr.heap[k]? = some (.cells cells q (0, 0)) → ¬ (k = w.heap.size + 1 ∨ some k = vF.ownBlock) := fun k cells q hq hk h => by
              rcases h with rfl | h
              · exact absurd rfl (blk_ne hk HH.out.hb (by rcases hq with rfl | rfl | rfl <;> decide))
              · obtain ⟨_, hy⟩ := tF k h; exact absurd rfl (blk_ne hk hy (by rcases hq with rfl | rfl | rfl <;> decide))
            refine ⟨HH.out.below.trans (hs.below HH.out.below.size (fun k h => ?_)), hs.blk HH.out.box (no9 _ _ 24 (.inr (.inl rfl)) HH.out.box), blk_set HB3.out 3 _, ?_, R_still HH.out.N hs (fun k cells q hq hk => no9 k cells q (.inr (.inr (by simpa [Kd.raw] using hq))) hk), fun e he => ⟨(HH.out.T e he).1, R_still (HH.out.T e he).2 hs (fun k cells q hq hk => no9 k cells q (.inl (by simpa [Kd.string, Kd.scalar] using hq)) hk)⟩⟩
            · rcases h with h | h
              · omega
              · exact Kd.R_base HH.out.F k h.symm
            · rw [List.replicate_succ', ← List.append_assoc]
              exact R_still HF3.out.1 (Still.set (S := fun k => k = w.heap.size + 1) _ _ _ rfl) (fun k cells q hq hk e => by
                have hq' : q = 31 := by simpa [Kd.raw] using hq
                subst hq' e
                exact absurd rfl (blk_ne hk HB3.out (by decide)))⟩
          have HNX1 := Aside0.mk (HNX.out _ rfl)
          clear HNX
          have hlz : (L.map fullC ++ List.replicate i markC ++ [markC]).length = L.length + i + 1 := by simp; omega
          rw [hlz] at HNX1
          go_roundw
          case rel => exact ⟨i + 1, by first | rfl | (rw [hwi]; rfl), HI1.out, ⟨_, _, HNX1.out⟩⟩
          case measure => first | exact HMS.out | (rw [hwi]; exact HMS.out)
        · obtain rfl : i = 8 := by omega
          have b2 : decide (((8 : Nat) : Int) < 8) = false := by decide
          have b3 : ((8 : Nat) < 8) = False := by simp
          clear hlt hi
          obtain ⟨gF, cF, eF, hFb, _⟩ := Kd.R_form HH.out.F (by simp)
          have hlz : (L.map fullC ++ List.replicate 8 markC).length = acts.length + 8 := by rw [List.length_append, List.length_map, List.length_replicate, HLL2.out]
          rw [hlz] at eF
          subst eF
          have HCF : Aside0 (acts.length ≤ cF ∧ acts.length + 8 ≤ cF) := ⟨by
            obtain ⟨A9, c9, e9, h9, _⟩ := Kd.R_reads HH.out.F
            injection e9 with _ _ e9c
            rw [hlz] at h9; omega⟩
          have HCF := Aside0.mk HCF.out.1
          have HCR : Aside0 (acts.length + 8 ≤ cF) := ⟨by
            obtain ⟨A9, c9, e9, h9, _⟩ := Kd.R_reads HH.out.F
            injection e9 with _ _ e9c
            rw [hlz] at h9; omega⟩
          clear hFb hlz
          go_wp2_with fail
          refine region_facts (ws := [12]) (G := fun e w' => Aside0 ((e = 0 → Below wr.heap.size wr w') ∧ (e = 1 → Still wr w' (fun k => k = w.heap.size + 1) ∧ w'.heap[w.heap.size + 1]? = some (.cells #[.int .i64 p0, .int .i64 p1, .slice (some ⟨gF, 0, none⟩) acts.length cF, .slice (some ⟨gF, 0, none⟩) (acts.length + 8) cF, vN] 37 (0, 0))))) (φs := [Fact.eq (.pointer (some ⟨w.heap.size + 1, 0, none⟩)), Fact.eq (.pointer (some ⟨w.heap.size + 1, 0, none⟩)), Fact.eq (.pointer (some ⟨w.heap.size + 1, 0, none⟩)), Fact.eq (.pointer (some ⟨w.heap.size + 1, 3, none⟩)), Fact.eq (.slice (some ⟨gF, 0, none⟩) (acts.length + 8) cF), Fact.eq (.pointer (some ⟨w.heap.size, 2, none⟩)), Fact.eq (.slice A acts.length c), Fact.eq (.int .i64 (acts.length : Int)), Fact.eq (.slice (some ⟨gF, 0, none⟩) acts.length cF), Fact.eq (.pointer (some ⟨w.heap.size + 1, 0, none⟩)), Fact.eq (.pointer (some ⟨w.heap.size + 1, 0, none⟩)), Fact.eq (.pointer (some ⟨w.heap.size + 1, 2, none⟩)), Fact.none]) (n := 13) (m := 79) (by kernel_rfl) (by kernel_rfl) rfl rfl (by kernel_rfl) (fun _ _ _ h hb => ⟨fun he => below_then (h.out.1 he) (h.out.1 he).size hb, fun he => ⟨(h.out.2 he).1.then hb, (hb.block _ (blk_lt (h.out.2 he).2)).trans (h.out.2 he).2⟩⟩) (⟨fun _ => below_drew (Below.refl _ _), fun he => (by cases he)⟩) ⟨?oz0, ?oz1, ?oz2, ?oz3, ?oz4, ?oz5, ?oz6, ?oz7, ?oz8, ?oz9, ?oz10, ?oz11, ?oz12, trivial⟩ ?finz
          case oz0 =>
            refine ask_val [.fix 3 _] rfl 66 rfl (.inl rfl) ⟨⟨by kernel_rfl, by conv => lhs; whnf⟩, trivial⟩ ?_
            dsimp only [Has, Fact.eq]
            intro e ρ w' hc hf hg hG h3
            go_simp
            first | done | rfl
          case oz1 =>
            refine ask_val [.fix 3 _] rfl 67 rfl (.inl rfl) ⟨⟨by kernel_rfl, by conv => lhs; whnf⟩, trivial⟩ ?_
            dsimp only [Has, Fact.eq]
            intro e ρ w' hc hf hg hG h3
            go_simp
            first | done | rfl
          case oz2 =>
            refine ask_val [.op 67 1 (Fact.eq _)] rfl 68 rfl (.inl rfl) ⟨⟨by kernel_rfl, rfl⟩, trivial⟩ ?_
            dsimp only [Has, Fact.eq]
            intro e ρ w' hc hf hg hG h67
            go_simp
            first | done | rfl
          case oz3 =>
            refine ask_val [.op 68 2 (Fact.eq _)] rfl 69 rfl (.inl rfl) ⟨⟨by kernel_rfl, rfl⟩, trivial⟩ ?_
            dsimp only [Has, Fact.eq]
            intro e ρ w' hc hf hg hG h68
            go_simp
            first | done | rfl
          case oz4 =>
            refine ask_step [.op 69 3 (Fact.eq _)] rfl 70 rfl (.inl rfl) ⟨⟨by kernel_rfl, rfl⟩, trivial⟩ 0 0 (by kernel_rfl) ?_
            dsimp only [Has, Fact.eq]
            intro e ρ w' hp hq hc hf hg hG h69
            obtain rfl : e = 0 := by omega
            have hbk := ((hG.out.1 rfl).block _ (blk_lt HH.out.hb)).trans HH.out.hb
            have c0 : w'.cell? ⟨w.heap.size + 1, 3, none⟩ = some (.slice (some ⟨gF, 0, none⟩) (acts.length + 8) cF) := by rw [blk_cell hbk]; rfl
            refine ⟨_, w', ?_, rfl, Below.refl _ _⟩
            go_simp
            first | done | rfl
          case oz5 =>
            refine ask_val [.fix 1 _] rfl 71 rfl (.inl rfl) ⟨⟨by kernel_rfl, by conv => lhs; whnf⟩, trivial⟩ ?_
            dsimp only [Has, Fact.eq]
            intro e ρ w' hc hf hg hG h1
            go_simp
            first | done | rfl
          case oz6 =>
            refine ask_step [.op 71 5 (Fact.eq _)] rfl 72 rfl (.inl rfl) ⟨⟨by kernel_rfl, rfl⟩, trivial⟩ 0 0 (by kernel_rfl) ?_
            dsimp only [Has, Fact.eq]
            intro e ρ w' hp hq hc hf hg hG h71
            obtain rfl : e = 0 := by omega
            have hbk := ((hG.out.1 rfl).block _ (blk_lt HH.out.box)).trans HH.out.box
            have c0 : w'.cell? ⟨w.heap.size, 2, none⟩ = some (.slice A acts.length c) := by rw [blk_cell hbk]; rfl
            refine ⟨_, w', ?_, rfl, Below.refl _ _⟩
            go_simp
            first | done | rfl
          case oz7 =>
            refine ask_val [.op 72 6 (Fact.eq _)] rfl 73 rfl (.inl rfl) ⟨⟨by kernel_rfl, rfl⟩, trivial⟩ ?_
            dsimp only [Has, Fact.eq]
            intro e ρ w' hc hf hg hG h72
            go_simp
            first | done | rfl
          case oz8 =>
            refine ask_val [.op 70 4 (Fact.eq _), .op 73 7 (Fact.eq _)] rfl 74 rfl (.inl rfl) ⟨⟨by kernel_rfl, rfl⟩, ⟨by kernel_rfl, rfl⟩, trivial⟩ ?_
            dsimp only [Has, Fact.eq]
            intro e ρ w' hc hf hg hG h70 h73
            have q1 : acts.length ≤ cF := HCF.out
            go_simp
            first | done | rfl
          case oz9 =>
            refine ask_val [.op 66 0 (Fact.eq _)] rfl 75 rfl (.inl rfl) ⟨⟨by kernel_rfl, rfl⟩, trivial⟩ ?_
            dsimp only [Has, Fact.eq]
            intro e ρ w' hc hf hg hG h66
            go_simp
            first | done | rfl
          case oz10 =>
            refine ask_val [.op 75 9 (Fact.eq _)] rfl 76 rfl (.inl rfl) ⟨⟨by kernel_rfl, rfl⟩, trivial⟩ ?_
            dsimp only [Has, Fact.eq]
            intro e ρ w' hc hf hg hG h75
            go_simp
            first | done | rfl
          case oz11 =>
            refine ask_val [.op 76 10 (Fact.eq _)] rfl 77 rfl (.inl rfl) ⟨⟨by kernel_rfl, rfl⟩, trivial⟩ ?_
            dsimp only [Has, Fact.eq]
            intro e ρ w' hc hf hg hG h76
            go_simp
            first | done | rfl
          case oz12 =>
            refine ask_store [.op 77 11 (Fact.eq _), .op 74 8 (Fact.eq _)] rfl rfl (.inl rfl) ⟨⟨by kernel_rfl, rfl⟩, ⟨by kernel_rfl, rfl⟩, trivial⟩ 0 0 (by kernel_rfl) ?_
            dsimp only [Has, Fact.eq]
            intro e ρ w' hp hq hc hf hg hG h77 h74
            obtain rfl : e = 0 := by omega
            have hbk := ((hG.out.1 rfl).block _ (blk_lt HH.out.hb)).trans HH.out.hb
            have c0 : w'.cell? ⟨w.heap.size + 1, 2, none⟩ = some (.slice A acts.length c) := by rw [blk_cell hbk]; rfl
            have f0 : w'.frozen? ⟨w.heap.size + 1, 2, none⟩ = false := blk_frozen hbk _
            refine ⟨w'.setCell ⟨w.heap.size + 1, 2, none⟩ (.slice (some ⟨gF, 0, none⟩) acts.length cF), ?_, trivial, ⟨fun he => (by cases he), fun _ => ⟨(Still.of (hG.out.1 rfl)).trans (Still.set (S := fun k => k = w.heap.size + 1) _ _ _ rfl) (fun _ _ h => h), blk_set hbk 2 _⟩⟩, ⟨fun _ h => h, fun _ h => h, fun _ h => h, fun _ h => h, fun _ h => h, fun _ h => h, fun _ h => h, fun _ h => h, fun _ h => h, fun _ h => h, fun _ h => h, fun _ h => h, fun _ h => h, trivial⟩⟩
            go_simp
            first | done | rfl
          case finz =>
            intro w' hG
            refine fin_eq (fin_eq (fin_eq (fin_eq (fin_eq (fin_eq (fin_eq (fin_eq (fin_eq (fin_eq (fin_eq (fin_eq (fin_fact (fun v12 hv12 => fin_nil (a' := ?_) ?_ ?_)))))))))))))
            rotate_left
            · simp only [Act.put, List.setIfInBounds_toArray, List.set_cons_zero, List.set_cons_succ]
              rfl
            have HEND : Aside0 (HandAt w' w.heap.size (w.heap.size + 1) p0 p1 acts.length gF cF vN L ∧ Below w.heap.size w w') := ⟨by
              obtain ⟨hs, hbk⟩ := hG.out.2 rfl
              have no : ∀ (k : Nat) (cells : Array Value) (q : Nat), q ≠ 37 → wr.heap[k]? = some (.cells cells q (0, 0)) → ¬ k = w.heap.size + 1 := fun k cells q hq hk e => by
                subst e; exact absurd rfl (blk_ne hk HH.out.hb hq)
              refine ⟨⟨hbk, R_still HH.out.F hs (fun k cells q hq hk => no k cells q (by have h : q = 31 := (by simpa [Kd.raw] using hq); rw [h]; decide) hk), R_still HH.out.N hs (fun k cells q hq hk => no k cells q (by have h : q = 29 := (by simpa [Kd.raw] using hq); rw [h]; decide) hk), fun e he => ⟨(HH.out.T e he).1, R_still (HH.out.T e he).2 hs (fun k cells q hq hk => no k cells q (by have h : q = 9 := (by simpa [Kd.string, Kd.scalar] using hq); rw [h]; decide) hk)⟩, HLL2.out, HCR.out⟩, HH.out.below.trans (hs.below HH.out.below.size (fun k h => by omega))⟩⟩
            clear hG
            go_wp2_with fail
            go_ret
            exact ⟨_, gF, cF, vN, L, rfl, HLE.out, HEND.out.1, Nat.le_succ _, HEND.out.2⟩
end Go.Proofs.YtkfjjmmpbfjhaaaGreatDoor.Tells
