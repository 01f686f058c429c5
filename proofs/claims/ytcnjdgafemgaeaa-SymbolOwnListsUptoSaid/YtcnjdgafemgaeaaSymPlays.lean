/- The contract of shelf.plays: a step of the script. Conditions: those of OnShelf. -/
import Derived.Test.YtcnjdgafemgaeaaSymShelf
import Derived.Outline
import Derived.Test.YtcnjdgafemgaeaaPSymbolPlaysx1
namespace Go.Proofs.Ytcnjdgafemgaeaa.Sym
open Go.RowKit Go.Maps Go.WideMaps Go.Proofs.Ytcnjdgafemgaeaa.PSymbolFirst Go.Proofs.YtcnjdgafemgaeaaW.PrintWords Go.Proofs.YtcnjdgafemgaeaaW.PrintLast Go.Proofs.YtcnjdgafemgaeaaW.PrintMore
attribute [local go_sem] max2_int min2_int max_two min_two max_three min_three max_four min_four
set_option linter.unusedVariables false
set_option linter.unusedSimpArgs false
theorem place_is (n : Int) : ∃ p : Nat, p < 2 ∧ PSymbolPlays.kilnlaw6_place.f n = some (p : Int) := by
  have hb : Int.tmod n 2 = -1 ∨ Int.tmod n 2 = 0 ∨ Int.tmod n 2 = 1 := by
    have := Int.tmod_lt_of_pos n (show (0 : Int) < 2 by omega)
    have : -2 < Int.tmod n 2 := Int.lt_tmod_of_pos n (by omega)
    omega
  unfold PSymbolPlays.kilnlaw6_place.f
  rcases hb with h | h | h <;> rw [h]
  · exact ⟨1, by omega, congrArg some (by unfold wrap64; decide)⟩
  · exact ⟨0, by omega, congrArg some (by unfold wrap64; decide)⟩
  · exact ⟨1, by omega, congrArg some (by unfold wrap64; decide)⟩
theorem place_quiet (At : Int) (p : Nat) (h : PSymbolPlays.kilnlaw6_place.f At = some (p : Int)) (w : World) (n : Nat) :
    Calls Try.prog 56 #[.int .i64 At] (w.drewN n) fun e w' => e = .returned (.int .i64 (p : Int)) ∧ ∃ m, w' = w.drewN m :=
  Calls.quiet_of ((PSymbolPlays.kilnlaw6_place.calls At p _ h).mono fun e w' ⟨he, hd⟩ => ⟨he, by obtain ⟨m, rfl⟩ := hd; exact ⟨m, rfl⟩⟩)
/-- what the shelf holds at a place -/
theorem Shelf.cells {B : Nat} {w : World} {g : Nat} {x y : Nat → Option Addr} {st : Nat → St} {a b : Nat → Nat → Prop} {wr : World} (h : Shelf B w g x y st a b wr) (p : Nat) (hp : p < 2) :
    wr.cell? ⟨g, p, none⟩ = some (.pointer (x p)) ∧ wr.cell? ⟨g, 2 + p, none⟩ = some (.pointer (y p)) := by
  have hk : p = 0 ∨ p = 1 := by omega
  rcases hk with rfl | rfl
  · exact ⟨(blk_cell h.blk 0).trans rfl, (blk_cell h.blk 2).trans rfl⟩
  · exact ⟨(blk_cell h.blk 1).trans rfl, (blk_cell h.blk 3).trans rfl⟩
def okOf (g : Nat) (a b : Nat → Nat → Prop) (i : Nat) : Prop := i = g ∨ a 0 i ∨ b 0 i ∨ a 1 i ∨ b 1 i
theorem okOf_at {g : Nat} {a b : Nat → Nat → Prop} {p i : Nat} (hp : p < 2) (h : a p i ∨ b p i) : okOf g a b i := by
  have hk : p = 0 ∨ p = 1 := by omega
  rcases hk with rfl | rfl
  · exact h.elim (fun h => .inr (.inl h)) (fun h => .inr (.inr (.inl h)))
  · exact h.elim (fun h => .inr (.inr (.inr (.inl h)))) (fun h => .inr (.inr (.inr (.inr h))))
/-- the shelf behind a call: its blocks have grown by new ones alone, no other block has turned -/
def Played (B : Nat) (w : World) (g : Nat) (ok : Nat → Prop) (wr w' : World) : Prop :=
  ∃ st' ok', OnShelf B w g st' ok' w' ∧ (∀ i, ok' i → ok i ∨ wr.heap.size ≤ i) ∧ Only ok wr w'
section
variable {B : Nat} {w : World} {g : Nat} {x y : Nat → Option Addr} {st : Nat → St} {a b : Nat → Nat → Prop} {wr w' w3 : World}
theorem Shelf.fresh (h : Shelf B w g x y st a b wr) (p : Nat) (hp : p < 2) (i : Nat) (hi : wr.heap.size ≤ i) : ¬ a p i ∧ ¬ b p i :=
  ⟨fun k => by have := ((h.pair p hp).own1 i k).2; omega, fun k => by have := ((h.pair p hp).own2 i k).2; omega⟩
theorem Shelf.done (h : Shelf B w g x y st a b wr) (hle : B ≤ w.heap.size) {p : Nat} (hp : p < 2) (hb : Below wr.heap.size wr w3) (hO : Only (fun i => a p i ∨ b p i) w3 w') {s' : St} {a' b' : Nat → Prop}
    (hP : Pair B w (x p) (y p) s' s' a' b' w') (hg : ∀ i, a' i ∨ b' i → (a p i ∨ b p i) ∨ wr.heap.size ≤ i) : Played B w g (okOf g a b) wr w' := by
  have hO' : Only (fun i => a p i ∨ b p i) wr w' := ((Only.refl _ wr).below hb).trans hO (fun i _ k => k)
  have hng : ¬ (a p g ∨ b p g) := fun k => k.elim (h.own.2 p hp).1 (h.own.2 p hp).2
  refine ⟨upd st p s', _, ⟨x, y, upd a p a', upd b p b', ⟨(hO'.block g (blk_lt h.blk) hng).trans h.blk, ?_, ?_, h.own.1, ?_⟩, fun i => Iff.rfl⟩, ?_, (Only.refl _ wr).trans hO' (fun i _ k => okOf_at hp k)⟩
  · intro k hk
    unfold upd
    split
    · rename_i e; subst e; exact hP
    · rename_i e
      exact (h.pair k hk).other hle hO' (fun i hi => ⟨hi.elim (fun j => ((h.pair p hp).own1 i j).1) (fun j => ((h.pair p hp).own2 i j).1), fun j => h.apart p k hp hk (fun q => e q.symm) i hi (.inl j), fun j => h.apart p k hp hk (fun q => e q.symm) i hi (.inr j)⟩)
  · have key : ∀ k, k < 2 → k ≠ p → ∀ i, a' i ∨ b' i → ¬ (a k i ∨ b k i) := fun k hk e i hi hj => by
      rcases hg i hi with q | q
      · exact h.apart p k hp hk (fun z => e z.symm) i q hj
      · have := h.fresh k hk i q; exact hj.elim this.1 this.2
    intro j k hj hk hjk i
    unfold upd
    split <;> split
    · rename_i e e'; exact absurd (e.trans e'.symm) hjk
    · rename_i e e'; exact key k hk e' i
    · rename_i e e'; exact fun hi hj' => key j hj e i hj' hi
    · exact h.apart j k hj hk hjk i
  · have key : ¬ a' g ∧ ¬ b' g := ⟨fun q => (hg g (.inl q)).elim hng (fun z => by have := blk_lt h.blk; omega), fun q => (hg g (.inr q)).elim hng (fun z => by have := blk_lt h.blk; omega)⟩
    intro k hk
    unfold upd
    split
    · exact key
    · exact h.own.2 k hk
  · intro i hi
    have key : ∀ k, k < 2 → upd a p a' k i ∨ upd b p b' k i → okOf g a b i ∨ wr.heap.size ≤ i := fun k hk q => by
      unfold upd at q
      split at q
      · exact (hg i q).imp (fun z => okOf_at hp z) id
      · exact .inl (okOf_at hk q)
    rcases hi with rfl | q | q | q | q
    · exact .inl (.inl rfl)
    · exact key 0 (by omega) (.inl q)
    · exact key 0 (by omega) (.inr q)
    · exact key 1 (by omega) (.inl q)
    · exact key 1 (by omega) (.inr q)
end
theorem turn_grow {a b a' b' : Nat → Prop} {n m k : Nat} (h1 : n ≤ m) (h2 : n ≤ k) (ha : ∀ i, a' i → a i ∨ k ≤ i) (hb : ∀ i, b' i → b i ∨ m ≤ i) : ∀ i, a' i ∨ b' i → (a i ∨ b i) ∨ n ≤ i := fun i hi =>
  hi.elim (fun q => (ha i q).elim (fun z => .inl (.inl z)) (fun z => .inr (Nat.le_trans h2 z))) (fun q => (hb i q).elim (fun z => .inl (.inr z)) (fun z => .inr (Nat.le_trans h1 z)))
theorem ptLoad_at (w : World) (A : Option Addr) (k c : Nat) (l : List ByteArray) (n ee : Int) (s2 : St) (h : loadS l n = (ee, s2)) (hk : l.length = k) (hC : Kd.C Kd.string w A l.length l) (hc : l.length ≤ c) :
    Calls Try.prog 36 #[.slice A k c, .int .i64 n] w fun e w' => ∃ x, e = .returned (.tuple #[.pointer x, .int .i64 ee]) ∧ PTNew w x s2 w' := by
  have := ptLoad w A k c l n hk hC hc
  rw [h] at this; exact this
theorem prLoad_at (w : World) (A : Option Addr) (k c : Nat) (l : List ByteArray) (n ee : Int) (s2 : St) (h : loadS l n = (ee, s2)) (hk : l.length = k) (hC : Kd.C Kd.string w A l.length l) (hc : l.length ≤ c) :
    Calls Try.prog 37 #[.slice A k c, .int .i64 n] w fun e w' => ∃ x, e = .returned (.tuple #[.pointer x, .int .i64 ee]) ∧ PRNew w x s2 w' := by
  have := prLoad w A k c l n hk hC hc
  rw [h] at this; exact this
theorem PRNew.back {w0 w w' : World} {y : Option Addr} {s : St} (h : PRNew w y s w') (hb : Below w0.heap.size w0 w) : PRNew w0 y s w' := by
  obtain ⟨ok, T, h1, h2⟩ := h
  exact ⟨ok, T, fun i hi => Nat.le_trans hb.size (h1 i hi), below_then hb hb.size h2⟩
theorem PTNew.below {w w' : World} {x : Option Addr} {s : St} (h : PTNew w x s w') : Below w.heap.size w w' := by obtain ⟨_, _, _, h⟩ := h; exact h
theorem PRNew.below {w w' : World} {x : Option Addr} {s : St} (h : PRNew w x s w') : Below w.heap.size w w' := by obtain ⟨_, _, _, h⟩ := h; exact h
theorem shelf_put {W : World} {g : Nat} {x y : Nat → Option Addr} (h : W.heap[g]? = some (.cells #[.pointer (x 0), .pointer (x 1), .pointer (y 0), .pointer (y 1)] 67 (0, 0))) {p : Nat} (hp : p < 2) (u v : Option Addr) :
    (W.cell? ⟨g, p, none⟩ = some (.pointer (x p)) ∧ W.frozen? ⟨g, p, none⟩ = false) ∧ ((W.setCell ⟨g, p, none⟩ (.pointer u)).cell? ⟨g, 2 + p, none⟩ = some (.pointer (y p)) ∧ (W.setCell ⟨g, p, none⟩ (.pointer u)).frozen? ⟨g, 2 + p, none⟩ = false) ∧
    ((W.setCell ⟨g, p, none⟩ (.pointer u)).setCell ⟨g, 2 + p, none⟩ (.pointer v)).heap[g]? = some (.cells #[.pointer (upd x p u 0), .pointer (upd x p u 1), .pointer (upd y p v 0), .pointer (upd y p v 1)] 67 (0, 0)) := by
  have hk : p = 0 ∨ p = 1 := by omega
  rcases hk with rfl | rfl
  · have h1 : (W.setCell ⟨g, 0, none⟩ (.pointer u)).heap[g]? = some (.cells #[.pointer u, .pointer (x 1), .pointer (y 0), .pointer (y 1)] 67 (0, 0)) := by simpa using blk_set h 0 (.pointer u)
    have h2 : ((W.setCell ⟨g, 0, none⟩ (.pointer u)).setCell ⟨g, 2, none⟩ (.pointer v)).heap[g]? = some (.cells #[.pointer u, .pointer (x 1), .pointer v, .pointer (y 1)] 67 (0, 0)) := by simpa using blk_set h1 2 (.pointer v)
    exact ⟨⟨(blk_cell h 0).trans rfl, blk_frozen h 0⟩, ⟨(blk_cell h1 2).trans rfl, blk_frozen h1 2⟩, h2⟩
  · have h1 : (W.setCell ⟨g, 1, none⟩ (.pointer u)).heap[g]? = some (.cells #[.pointer (x 0), .pointer u, .pointer (y 0), .pointer (y 1)] 67 (0, 0)) := by simpa using blk_set h 1 (.pointer u)
    have h2 : ((W.setCell ⟨g, 1, none⟩ (.pointer u)).setCell ⟨g, 3, none⟩ (.pointer v)).heap[g]? = some (.cells #[.pointer (x 0), .pointer u, .pointer (y 0), .pointer v] 67 (0, 0)) := by simpa using blk_set h1 3 (.pointer v)
    exact ⟨⟨(blk_cell h 1).trans rfl, blk_frozen h 1⟩, ⟨(blk_cell h1 3).trans rfl, blk_frozen h1 3⟩, h2⟩
theorem Shelf.loaded {B : Nat} {w : World} {g : Nat} {x y : Nat → Option Addr} {st : Nat → St} {a b : Nat → Nat → Prop} {wr w' w4 w8 : World} (h : Shelf B w g x y st a b wr) (hle : B ≤ w.heap.size) {p : Nat} (hp : p < 2)
    (hb4 : Below wr.heap.size wr w4) (hb8 : Below wr.heap.size wr w8) {x' y' : Option Addr} {s' : St} {a' b' : Nat → Prop} (hP : Pair w4.heap.size w4 x' y' s' s' a' b' w8) (hO : Only (fun i => i = g) w8 w')
    (hblk : w'.heap[g]? = some (.cells #[.pointer (upd x p x' 0), .pointer (upd x p x' 1), .pointer (upd y p y' 0), .pointer (upd y p y' 1)] 67 (0, 0))) : Played B w g (okOf g a b) wr w' := by
  have hwr := (h.pair p hp).below
  have hlw := Nat.le_trans hle hwr.size
  have hg : ∀ i, a' i ∨ b' i → wr.heap.size ≤ i := fun i hi => hi.elim (fun q => Nat.le_trans hb4.size (hP.own1 i q).1) (fun q => Nat.le_trans hb4.size (hP.own2 i q).1)
  have hgl := blk_lt h.blk
  have n1 : ¬ a' g ∧ ¬ b' g := ⟨fun q => by have := hg g (.inl q); omega, fun q => by have := hg g (.inr q); omega⟩
  have hP8 : Pair B w x' y' s' s' a' b' w8 := ⟨hP.t, hP.r, fun i hi => ⟨Nat.le_trans hlw (hg i (.inl hi)), (hP.own1 i hi).2⟩, fun i hi => ⟨Nat.le_trans hlw (hg i (.inr hi)), (hP.own2 i hi).2⟩, hP.apart, below_then hwr hlw hb8⟩
  refine ⟨upd st p s', _, ⟨upd x p x', upd y p y', upd a p a', upd b p b', ⟨hblk, ?_, ?_, h.own.1, ?_⟩, fun i => Iff.rfl⟩, ?_, ((Only.refl _ wr).below hb8).trans hO (fun i _ k => .inl k)⟩
  · intro k hk
    unfold upd
    split
    · exact hP8.other hle hO (fun i hi => by subst hi; exact ⟨h.own.1, n1⟩)
    · exact ((h.pair k hk).step hle hb8).other hle hO (fun i hi => by subst hi; exact ⟨h.own.1, h.own.2 k hk⟩)
  · have key : ∀ k, k < 2 → ∀ i, a' i ∨ b' i → ¬ (a k i ∨ b k i) := fun k hk i hi hj => by
      have := h.fresh k hk i (hg i hi); exact hj.elim this.1 this.2
    intro j k hj hk hjk i
    unfold upd
    split <;> split
    · rename_i e e'; exact absurd (e.trans e'.symm) hjk
    · exact key k hk i
    · exact fun hi hj' => key j hj i hj' hi
    · exact h.apart j k hj hk hjk i
  · intro k hk
    unfold upd
    split
    · exact n1
    · exact h.own.2 k hk
  · intro i hi
    have key : ∀ k, k < 2 → upd a p a' k i ∨ upd b p b' k i → okOf g a b i ∨ wr.heap.size ≤ i := fun k hk q => by
      unfold upd at q
      split at q
      · exact .inr (hg i q)
      · exact .inl (okOf_at hk q)
    rcases hi with rfl | q | q | q | q
    · exact .inl (.inl rfl)
    · exact key 0 (by omega) (.inl q)
    · exact key 0 (by omega) (.inr q)
    · exact key 1 (by omega) (.inl q)
    · exact key 1 (by omega) (.inr q)
set_option maxHeartbeats 4000000 in
set_option maxRecDepth 100000 in
theorem plays_add (B : Nat) (w wr : World) (g : Nat) (x y : Nat → Option Addr) (st : Nat → St) (a b : Nat → Nat → Prop) (hB : B ≤ w.heap.size) (hS : Shelf B w g x y st a b wr) (At N : Int) (s : ByteArray) (p : Nat) (hp : p < 2) (hpl : PSymbolPlays.kilnlaw6_place.f At = some (p : Int)) :
    Calls Try.prog 55 #[.pointer (some ⟨g, 0, none⟩), .agg #[.int .i64 1, .int .i64 At, .int .i64 N, .string s]] wr fun e w' => e = .returned (.bool true) ∧ Played B w g (okOf g a b) wr w' := by
  have HSH := Aside0.mk hS
  have HPL := Aside0.mk hpl
  have hcell := hS.cells p hp
  have hgl := blk_lt hS.blk
  have hfr := hS.fresh p hp
  have hst := blk_new wr (.cells #[.int .i64 1, .int .i64 At, .int .i64 N, .string s] 70 (0, 0))
  have HST := Aside0.mk hst
  have d0 := (blk_cell hst 0).trans (show _ = some (.int .i64 1) from rfl)
  have d1 := (blk_cell hst 1).trans (show _ = some (.int .i64 At) from rfl)
  have d2 := (blk_cell hst 2).trans (show _ = some (.int .i64 N) from rfl)
  have d3 := (blk_cell hst 3).trans (show _ = some (.string s) from rfl)
  have c0 := pw_cell_below_le (below_alloc (Below.refl _ wr) (.cells #[.int .i64 1, .int .i64 At, .int .i64 N, .string s] 70 (0, 0))) hcell.1
  have c1 := pw_cell_below_le (below_alloc (Below.refl _ wr) (.cells #[.int .i64 1, .int .i64 At, .int .i64 N, .string s] 70 (0, 0))) hcell.2
  have i0 : (0 : Int) ≤ (p : Int) := by omega
  have i1 : (p : Int) < 2 := by omega
  have i2 : (p : Int).toNat = p := by omega
  clear hS hpl hst hcell
  have HBw1 := Aside0.mk (below_alloc (Below.refl _ wr) (.cells #[.int .i64 1, .int .i64 At, .int .i64 N, .string s] 70 (0, 0)))
  go_enter Try.func55, Try.ntmps55
  go_wp2_with fail
  generalize wr.alloc (Obj.cells #[Value.int IntKind.i64 1, Value.int IntKind.i64 At, Value.int IntKind.i64 N, Value.string s] 70) = w1 at *
  go_quiet ((go_at_call 56; exact place_quiet At p HPL.out _ _))
  go_wp2_with fail
  generalize hq : w1.drewN _ = w2
  have HBw2 : Aside0 (Below wr.heap.size wr w2) := ⟨by rw [← hq]; exact pw_below_drewN HBw1.out _⟩
  replace HST : Aside0 (w2.heap[wr.heap.size]? = some (.cells #[.int .i64 1, .int .i64 At, .int .i64 N, .string s] 70 (0, 0))) := ⟨by rw [← hq]; exact HST.out⟩
  replace d0 : w2.cell? ⟨wr.heap.size, 0, none⟩ = some (.int .i64 1) := by rw [← hq]; exact d0
  replace d1 : w2.cell? ⟨wr.heap.size, 1, none⟩ = some (.int .i64 At) := by rw [← hq]; exact d1
  replace d2 : w2.cell? ⟨wr.heap.size, 2, none⟩ = some (.int .i64 N) := by rw [← hq]; exact d2
  replace d3 : w2.cell? ⟨wr.heap.size, 3, none⟩ = some (.string s) := by rw [← hq]; exact d3
  replace c0 : w2.cell? ⟨g, p, none⟩ = some (.pointer (x p)) := by rw [← hq]; exact c0
  replace c1 : w2.cell? ⟨g, 2 + p, none⟩ = some (.pointer (y p)) := by rw [← hq]; exact c1
  clear hq
  go_quiet ((go_at_call 56; exact place_quiet At p HPL.out _ _))
  go_wp2_with fail
  generalize hq : w2.drewN _ = w3
  have HBw3 : Aside0 (Below wr.heap.size wr w3) := ⟨by rw [← hq]; exact pw_below_drewN HBw2.out _⟩
  replace HST : Aside0 (w3.heap[wr.heap.size]? = some (.cells #[.int .i64 1, .int .i64 At, .int .i64 N, .string s] 70 (0, 0))) := ⟨by rw [← hq]; exact HST.out⟩
  replace d0 : w3.cell? ⟨wr.heap.size, 0, none⟩ = some (.int .i64 1) := by rw [← hq]; exact d0
  replace d1 : w3.cell? ⟨wr.heap.size, 1, none⟩ = some (.int .i64 At) := by rw [← hq]; exact d1
  replace d2 : w3.cell? ⟨wr.heap.size, 2, none⟩ = some (.int .i64 N) := by rw [← hq]; exact d2
  replace d3 : w3.cell? ⟨wr.heap.size, 3, none⟩ = some (.string s) := by rw [← hq]; exact d3
  replace c0 : w3.cell? ⟨g, p, none⟩ = some (.pointer (x p)) := by rw [← hq]; exact c0
  replace c1 : w3.cell? ⟨g, 2 + p, none⟩ = some (.pointer (y p)) := by rw [← hq]; exact c1
  clear hq
  have HP := Aside0.mk ((HSH.out.pair p hp).step hB HBw3.out)
  refine (ptAdd _ (a p) (x p) (st p) s (by exact HP.out.t)).mono ?_; rintro e w4 ⟨nn, ee, s2, ha2, rfl, ht⟩
  obtain ⟨a', hP1, hg1, hO1⟩ := HP.out.left hB ht
  have HP1 := Aside0.mk hP1
  have HO1 := Aside0.mk hO1
  have HA := Aside0.mk ha2
  have hst4 : w4.heap[wr.heap.size]? = some (.cells #[.int .i64 1, .int .i64 At, .int .i64 N, .string s] 70 (0, 0)) := (hO1.block _ (blk_lt HST.out) (hfr _ (Nat.le_refl _)).1).trans HST.out
  have d3x := (blk_cell hst4 3).trans (show _ = some (.string s) from rfl)
  clear hst4 d0 d1 d2 d3 c0 c1
  clear hP1 hO1 ha2 ht
  go_wp2_with fail
  refine (prAdd _ (b p) (y p) (st p) s2 s nn ee (by exact HP1.out.r) HA.out).mono ?_; rintro e w5 ⟨rfl, ht⟩
  obtain ⟨b', hP2, hg2, hO2⟩ := HP1.out.right hB ht
  have HP2 := Aside0.mk hP2
  have HO2 := Aside0.mk hO2
  clear hP2 hO2 ht d3x
  have y1t : (nn == nn) = true := beq_self_eq_true _
  have y1f : (nn != nn) = false := bne_self_eq_false _
  have y2t : (ee == ee) = true := beq_self_eq_true _
  have y2f : (ee != ee) = false := bne_self_eq_false _
  go_wp2_with (go_at_call 38; (with_reducible refine (kilnlaw6_num.calls _ _ _ rfl).mono ?_); rintro e w' ⟨rfl, ⟨nd, rfl⟩⟩)
  go_ret
  exact ⟨rfl, HSH.out.done hB hp HBw3.out ((((Only.refl _ w3).trans HO1.out (fun i _ h => .inl h)).trans HO2.out (fun i _ h => .inr h)).drewN _) (HP2.out.drewN _) (turn_grow (Nat.le_trans HBw3.out.size HO1.out.size) HBw3.out.size hg1 hg2)⟩
set_option maxHeartbeats 4000000 in
set_option maxRecDepth 100000 in
theorem plays_find (B : Nat) (w wr : World) (g : Nat) (x y : Nat → Option Addr) (st : Nat → St) (a b : Nat → Nat → Prop) (hB : B ≤ w.heap.size) (hS : Shelf B w g x y st a b wr) (At N : Int) (s : ByteArray) (p : Nat) (hp : p < 2) (hpl : PSymbolPlays.kilnlaw6_place.f At = some (p : Int)) (hs : s.size ≤ maxLen) :
    Calls Try.prog 55 #[.pointer (some ⟨g, 0, none⟩), .agg #[.int .i64 2, .int .i64 At, .int .i64 N, .string s]] wr fun e w' => e = .returned (.bool true) ∧ Played B w g (okOf g a b) wr w' := by
  have HSH := Aside0.mk hS
  have HPL := Aside0.mk hpl
  have hcell := hS.cells p hp
  have hgl := blk_lt hS.blk
  have hfr := hS.fresh p hp
  have hst := blk_new wr (.cells #[.int .i64 2, .int .i64 At, .int .i64 N, .string s] 70 (0, 0))
  have HST := Aside0.mk hst
  have d0 := (blk_cell hst 0).trans (show _ = some (.int .i64 2) from rfl)
  have d1 := (blk_cell hst 1).trans (show _ = some (.int .i64 At) from rfl)
  have d2 := (blk_cell hst 2).trans (show _ = some (.int .i64 N) from rfl)
  have d3 := (blk_cell hst 3).trans (show _ = some (.string s) from rfl)
  have c0 := pw_cell_below_le (below_alloc (Below.refl _ wr) (.cells #[.int .i64 2, .int .i64 At, .int .i64 N, .string s] 70 (0, 0))) hcell.1
  have c1 := pw_cell_below_le (below_alloc (Below.refl _ wr) (.cells #[.int .i64 2, .int .i64 At, .int .i64 N, .string s] 70 (0, 0))) hcell.2
  have i0 : (0 : Int) ≤ (p : Int) := by omega
  have i1 : (p : Int) < 2 := by omega
  have i2 : (p : Int).toNat = p := by omega
  clear hS hpl hst hcell
  have HBw1 := Aside0.mk (below_alloc (Below.refl _ wr) (.cells #[.int .i64 2, .int .i64 At, .int .i64 N, .string s] 70 (0, 0)))
  go_enter Try.func55, Try.ntmps55
  go_wp2_with fail
  generalize wr.alloc (Obj.cells #[Value.int IntKind.i64 2, Value.int IntKind.i64 At, Value.int IntKind.i64 N, Value.string s] 70) = w1 at *
  go_quiet ((go_at_call 56; exact place_quiet At p HPL.out _ _))
  go_wp2_with fail
  generalize hq : w1.drewN _ = w2
  have HBw2 : Aside0 (Below wr.heap.size wr w2) := ⟨by rw [← hq]; exact pw_below_drewN HBw1.out _⟩
  replace HST : Aside0 (w2.heap[wr.heap.size]? = some (.cells #[.int .i64 2, .int .i64 At, .int .i64 N, .string s] 70 (0, 0))) := ⟨by rw [← hq]; exact HST.out⟩
  replace d0 : w2.cell? ⟨wr.heap.size, 0, none⟩ = some (.int .i64 2) := by rw [← hq]; exact d0
  replace d1 : w2.cell? ⟨wr.heap.size, 1, none⟩ = some (.int .i64 At) := by rw [← hq]; exact d1
  replace d2 : w2.cell? ⟨wr.heap.size, 2, none⟩ = some (.int .i64 N) := by rw [← hq]; exact d2
  replace d3 : w2.cell? ⟨wr.heap.size, 3, none⟩ = some (.string s) := by rw [← hq]; exact d3
  replace c0 : w2.cell? ⟨g, p, none⟩ = some (.pointer (x p)) := by rw [← hq]; exact c0
  replace c1 : w2.cell? ⟨g, 2 + p, none⟩ = some (.pointer (y p)) := by rw [← hq]; exact c1
  clear hq
  go_quiet ((go_at_call 56; exact place_quiet At p HPL.out _ _))
  go_wp2_with fail
  generalize hq : w2.drewN _ = w3
  have HBw3 : Aside0 (Below wr.heap.size wr w3) := ⟨by rw [← hq]; exact pw_below_drewN HBw2.out _⟩
  replace HST : Aside0 (w3.heap[wr.heap.size]? = some (.cells #[.int .i64 2, .int .i64 At, .int .i64 N, .string s] 70 (0, 0))) := ⟨by rw [← hq]; exact HST.out⟩
  replace d0 : w3.cell? ⟨wr.heap.size, 0, none⟩ = some (.int .i64 2) := by rw [← hq]; exact d0
  replace d1 : w3.cell? ⟨wr.heap.size, 1, none⟩ = some (.int .i64 At) := by rw [← hq]; exact d1
  replace d2 : w3.cell? ⟨wr.heap.size, 2, none⟩ = some (.int .i64 N) := by rw [← hq]; exact d2
  replace d3 : w3.cell? ⟨wr.heap.size, 3, none⟩ = some (.string s) := by rw [← hq]; exact d3
  replace c0 : w3.cell? ⟨g, p, none⟩ = some (.pointer (x p)) := by rw [← hq]; exact c0
  replace c1 : w3.cell? ⟨g, 2 + p, none⟩ = some (.pointer (y p)) := by rw [← hq]; exact c1
  clear hq
  have HP := Aside0.mk ((HSH.out.pair p hp).step hB HBw3.out)
  refine (ptFind _ (a p) (x p) (st p) s hs (by exact HP.out.t)).mono ?_; rintro e w' ⟨nn, bb, hf, rfl, ⟨n1, rfl⟩⟩
  have HF := Aside0.mk hf
  clear hf
  go_wp2_with fail
  refine (prFind _ (b p) (y p) (st p) s nn bb (by exact (HP.out.drewN _).r) HF.out).mono ?_; rintro e w' ⟨rfl, ⟨n2, rfl⟩⟩
  have y1t : (nn == nn) = true := beq_self_eq_true _
  have y1f : (nn != nn) = false := bne_self_eq_false _
  have y2t : (bb == bb) = true := beq_self_eq_true _
  have y2f : (bb != bb) = false := bne_self_eq_false _
  go_wp2_with fail
  go_ret
  exact ⟨rfl, HSH.out.done hB hp HBw3.out ((Only.refl _ w3).drewN (n1 + n2)) (HP.out.drewN (n1 + n2)) (fun i hi => .inl hi)⟩
set_option maxHeartbeats 4000000 in
set_option maxRecDepth 100000 in
theorem plays_text (B : Nat) (w wr : World) (g : Nat) (x y : Nat → Option Addr) (st : Nat → St) (a b : Nat → Nat → Prop) (hB : B ≤ w.heap.size) (hS : Shelf B w g x y st a b wr) (At N : Int) (s : ByteArray) (p : Nat) (hp : p < 2) (hpl : PSymbolPlays.kilnlaw6_place.f At = some (p : Int)) :
    Calls Try.prog 55 #[.pointer (some ⟨g, 0, none⟩), .agg #[.int .i64 3, .int .i64 At, .int .i64 N, .string s]] wr fun e w' => e = .returned (.bool true) ∧ Played B w g (okOf g a b) wr w' := by
  have HSH := Aside0.mk hS
  have HPL := Aside0.mk hpl
  have hcell := hS.cells p hp
  have hgl := blk_lt hS.blk
  have hfr := hS.fresh p hp
  have hst := blk_new wr (.cells #[.int .i64 3, .int .i64 At, .int .i64 N, .string s] 70 (0, 0))
  have HST := Aside0.mk hst
  have d0 := (blk_cell hst 0).trans (show _ = some (.int .i64 3) from rfl)
  have d1 := (blk_cell hst 1).trans (show _ = some (.int .i64 At) from rfl)
  have d2 := (blk_cell hst 2).trans (show _ = some (.int .i64 N) from rfl)
  have d3 := (blk_cell hst 3).trans (show _ = some (.string s) from rfl)
  have c0 := pw_cell_below_le (below_alloc (Below.refl _ wr) (.cells #[.int .i64 3, .int .i64 At, .int .i64 N, .string s] 70 (0, 0))) hcell.1
  have c1 := pw_cell_below_le (below_alloc (Below.refl _ wr) (.cells #[.int .i64 3, .int .i64 At, .int .i64 N, .string s] 70 (0, 0))) hcell.2
  have i0 : (0 : Int) ≤ (p : Int) := by omega
  have i1 : (p : Int) < 2 := by omega
  have i2 : (p : Int).toNat = p := by omega
  clear hS hpl hst hcell
  have HBw1 := Aside0.mk (below_alloc (Below.refl _ wr) (.cells #[.int .i64 3, .int .i64 At, .int .i64 N, .string s] 70 (0, 0)))
  go_enter Try.func55, Try.ntmps55
  go_wp2_with fail
  generalize wr.alloc (Obj.cells #[Value.int IntKind.i64 3, Value.int IntKind.i64 At, Value.int IntKind.i64 N, Value.string s] 70) = w1 at *
  go_quiet ((go_at_call 56; exact place_quiet At p HPL.out _ _))
  go_wp2_with fail
  generalize hq : w1.drewN _ = w2
  have HBw2 : Aside0 (Below wr.heap.size wr w2) := ⟨by rw [← hq]; exact pw_below_drewN HBw1.out _⟩
  replace HST : Aside0 (w2.heap[wr.heap.size]? = some (.cells #[.int .i64 3, .int .i64 At, .int .i64 N, .string s] 70 (0, 0))) := ⟨by rw [← hq]; exact HST.out⟩
  replace d0 : w2.cell? ⟨wr.heap.size, 0, none⟩ = some (.int .i64 3) := by rw [← hq]; exact d0
  replace d1 : w2.cell? ⟨wr.heap.size, 1, none⟩ = some (.int .i64 At) := by rw [← hq]; exact d1
  replace d2 : w2.cell? ⟨wr.heap.size, 2, none⟩ = some (.int .i64 N) := by rw [← hq]; exact d2
  replace d3 : w2.cell? ⟨wr.heap.size, 3, none⟩ = some (.string s) := by rw [← hq]; exact d3
  replace c0 : w2.cell? ⟨g, p, none⟩ = some (.pointer (x p)) := by rw [← hq]; exact c0
  replace c1 : w2.cell? ⟨g, 2 + p, none⟩ = some (.pointer (y p)) := by rw [← hq]; exact c1
  clear hq
  go_quiet ((go_at_call 56; exact place_quiet At p HPL.out _ _))
  go_wp2_with fail
  generalize hq : w2.drewN _ = w3
  have HBw3 : Aside0 (Below wr.heap.size wr w3) := ⟨by rw [← hq]; exact pw_below_drewN HBw2.out _⟩
  replace HST : Aside0 (w3.heap[wr.heap.size]? = some (.cells #[.int .i64 3, .int .i64 At, .int .i64 N, .string s] 70 (0, 0))) := ⟨by rw [← hq]; exact HST.out⟩
  replace d0 : w3.cell? ⟨wr.heap.size, 0, none⟩ = some (.int .i64 3) := by rw [← hq]; exact d0
  replace d1 : w3.cell? ⟨wr.heap.size, 1, none⟩ = some (.int .i64 At) := by rw [← hq]; exact d1
  replace d2 : w3.cell? ⟨wr.heap.size, 2, none⟩ = some (.int .i64 N) := by rw [← hq]; exact d2
  replace d3 : w3.cell? ⟨wr.heap.size, 3, none⟩ = some (.string s) := by rw [← hq]; exact d3
  replace c0 : w3.cell? ⟨g, p, none⟩ = some (.pointer (x p)) := by rw [← hq]; exact c0
  replace c1 : w3.cell? ⟨g, 2 + p, none⟩ = some (.pointer (y p)) := by rw [← hq]; exact c1
  clear hq
  have HP := Aside0.mk ((HSH.out.pair p hp).step hB HBw3.out)
  have hpt := ptText w3 (a p) (x p) (st p) N (by exact HP.out.t)
  have hpr := fun n => prText (w3.drewN n) (b p) (y p) (st p) N (by exact (HP.out.drewN _).r)
  generalize textS (st p) N = r0 at *
  obtain ⟨tt, ee⟩ := r0
  refine hpt.mono ?_; rintro e w' ⟨rfl, ⟨n1, rfl⟩⟩
  have HPR := Aside0.mk (hpr n1)
  clear hpt hpr
  go_wp2_with fail
  refine (HPR.out).mono ?_; rintro e w' ⟨rfl, ⟨n2, rfl⟩⟩
  clear HPR
  have y2t : (ee == ee) = true := beq_self_eq_true _
  have y2f : (ee != ee) = false := bne_self_eq_false _
  go_wp2_with (go_at_call 38; (with_reducible refine (kilnlaw6_num.calls _ _ _ rfl).mono ?_); rintro e w' ⟨rfl, ⟨nd, rfl⟩⟩)
  go_ret
  exact ⟨rfl, HSH.out.done hB hp HBw3.out ((Only.refl _ w3).drewN (n1 + n2 + nd)) (HP.out.drewN (n1 + n2 + nd)) (fun i hi => .inl hi)⟩
set_option maxHeartbeats 4000000 in
set_option maxRecDepth 100000 in
theorem plays_all (B : Nat) (w wr : World) (g : Nat) (x y : Nat → Option Addr) (st : Nat → St) (a b : Nat → Nat → Prop) (hB : B ≤ w.heap.size) (hS : Shelf B w g x y st a b wr) (At N : Int) (s : ByteArray) (p : Nat) (hp : p < 2) (hpl : PSymbolPlays.kilnlaw6_place.f At = some (p : Int)) :
    Calls Try.prog 55 #[.pointer (some ⟨g, 0, none⟩), .agg #[.int .i64 4, .int .i64 At, .int .i64 N, .string s]] wr fun e w' => e = .returned (.bool true) ∧ Played B w g (okOf g a b) wr w' := by
  have HSH := Aside0.mk hS
  have HPL := Aside0.mk hpl
  have hcell := hS.cells p hp
  have hgl := blk_lt hS.blk
  have hfr := hS.fresh p hp
  have hst := blk_new wr (.cells #[.int .i64 4, .int .i64 At, .int .i64 N, .string s] 70 (0, 0))
  have HST := Aside0.mk hst
  have d0 := (blk_cell hst 0).trans (show _ = some (.int .i64 4) from rfl)
  have d1 := (blk_cell hst 1).trans (show _ = some (.int .i64 At) from rfl)
  have d2 := (blk_cell hst 2).trans (show _ = some (.int .i64 N) from rfl)
  have d3 := (blk_cell hst 3).trans (show _ = some (.string s) from rfl)
  have c0 := pw_cell_below_le (below_alloc (Below.refl _ wr) (.cells #[.int .i64 4, .int .i64 At, .int .i64 N, .string s] 70 (0, 0))) hcell.1
  have c1 := pw_cell_below_le (below_alloc (Below.refl _ wr) (.cells #[.int .i64 4, .int .i64 At, .int .i64 N, .string s] 70 (0, 0))) hcell.2
  have i0 : (0 : Int) ≤ (p : Int) := by omega
  have i1 : (p : Int) < 2 := by omega
  have i2 : (p : Int).toNat = p := by omega
  clear hS hpl hst hcell
  have HBw1 := Aside0.mk (below_alloc (Below.refl _ wr) (.cells #[.int .i64 4, .int .i64 At, .int .i64 N, .string s] 70 (0, 0)))
  go_enter Try.func55, Try.ntmps55
  go_wp2_with fail
  generalize wr.alloc (Obj.cells #[Value.int IntKind.i64 4, Value.int IntKind.i64 At, Value.int IntKind.i64 N, Value.string s] 70) = w1 at *
  go_quiet ((go_at_call 56; exact place_quiet At p HPL.out _ _))
  go_wp2_with fail
  generalize hq : w1.drewN _ = w2
  have HBw2 : Aside0 (Below wr.heap.size wr w2) := ⟨by rw [← hq]; exact pw_below_drewN HBw1.out _⟩
  replace HST : Aside0 (w2.heap[wr.heap.size]? = some (.cells #[.int .i64 4, .int .i64 At, .int .i64 N, .string s] 70 (0, 0))) := ⟨by rw [← hq]; exact HST.out⟩
  replace d0 : w2.cell? ⟨wr.heap.size, 0, none⟩ = some (.int .i64 4) := by rw [← hq]; exact d0
  replace d1 : w2.cell? ⟨wr.heap.size, 1, none⟩ = some (.int .i64 At) := by rw [← hq]; exact d1
  replace d2 : w2.cell? ⟨wr.heap.size, 2, none⟩ = some (.int .i64 N) := by rw [← hq]; exact d2
  replace d3 : w2.cell? ⟨wr.heap.size, 3, none⟩ = some (.string s) := by rw [← hq]; exact d3
  replace c0 : w2.cell? ⟨g, p, none⟩ = some (.pointer (x p)) := by rw [← hq]; exact c0
  replace c1 : w2.cell? ⟨g, 2 + p, none⟩ = some (.pointer (y p)) := by rw [← hq]; exact c1
  clear hq
  go_quiet ((go_at_call 56; exact place_quiet At p HPL.out _ _))
  go_wp2_with fail
  generalize hq : w2.drewN _ = w3
  have HBw3 : Aside0 (Below wr.heap.size wr w3) := ⟨by rw [← hq]; exact pw_below_drewN HBw2.out _⟩
  replace HST : Aside0 (w3.heap[wr.heap.size]? = some (.cells #[.int .i64 4, .int .i64 At, .int .i64 N, .string s] 70 (0, 0))) := ⟨by rw [← hq]; exact HST.out⟩
  replace d0 : w3.cell? ⟨wr.heap.size, 0, none⟩ = some (.int .i64 4) := by rw [← hq]; exact d0
  replace d1 : w3.cell? ⟨wr.heap.size, 1, none⟩ = some (.int .i64 At) := by rw [← hq]; exact d1
  replace d2 : w3.cell? ⟨wr.heap.size, 2, none⟩ = some (.int .i64 N) := by rw [← hq]; exact d2
  replace d3 : w3.cell? ⟨wr.heap.size, 3, none⟩ = some (.string s) := by rw [← hq]; exact d3
  replace c0 : w3.cell? ⟨g, p, none⟩ = some (.pointer (x p)) := by rw [← hq]; exact c0
  replace c1 : w3.cell? ⟨g, 2 + p, none⟩ = some (.pointer (y p)) := by rw [← hq]; exact c1
  clear hq
  have HP := Aside0.mk ((HSH.out.pair p hp).step hB HBw3.out)
  refine (ptAll _ (a p) (x p) (st p) (by exact HP.out.t)).mono ?_; rintro e w4 ⟨va, rfl, hRa, hBa⟩
  have HP4 := Aside0.mk (HP.out.step hB hBa)
  have HB4 := Aside0.mk hBa
  clear d0 d1 d2 d3 c0 c1
  go_wp2_with fail
  refine (prAll _ (b p) (y p) (st p) (by exact HP4.out.r)).mono ?_; rintro e w5 ⟨vb, rfl, hRb, hBb⟩
  have HP5 := Aside0.mk (HP4.out.step hB hBb)
  have HB5 := Aside0.mk hBb
  obtain ⟨Aa, ca9, rfl, ka, hCa⟩ := Kd.R_reads (Kd.R_below hRa hBb)
  obtain ⟨Ab, cb9, rfl, kb, hCb⟩ := Kd.R_reads hRb
  have HCa := Aside0.mk hCa
  have HCb := Aside0.mk hCb
  clear hRa hRb hBa hBb hCa hCb
  go_wp2_with fail
  refine (same_n _ Aa Ab _ _ ca9 cb9 (textsOf (st p)) rfl rfl (by exact HCa.out) (by exact ka) (by exact HCb.out) (by exact kb)).mono ?_; rintro e w' ⟨rfl, ⟨n1, rfl⟩⟩
  go_wp2_with fail
  refine (ptCount _ (a p) (x p) (st p) (by exact (HP5.out.drewN _).t)).mono ?_; rintro e w' ⟨rfl, ⟨n2, rfl⟩⟩
  go_wp2_with fail
  refine (prCount _ (b p) (y p) (st p) (by exact (HP5.out.drewN _).r)).mono ?_; rintro e w' ⟨rfl, ⟨n3, rfl⟩⟩
  have y1t : (((textsOf (st p)).length : Int) == ((textsOf (st p)).length : Int)) = true := beq_self_eq_true _
  have y1f : (((textsOf (st p)).length : Int) != ((textsOf (st p)).length : Int)) = false := bne_self_eq_false _
  go_wp2_with fail
  go_ret
  exact ⟨rfl, HSH.out.done hB hp HBw3.out ((((Only.refl _ w3).below HB4.out).below HB5.out).drewN (n1 + n2 + n3)) (HP5.out.drewN (n1 + n2 + n3)) (fun i hi => .inl hi)⟩
set_option maxHeartbeats 4000000 in
set_option maxRecDepth 100000 in
theorem plays_back (B : Nat) (w wr : World) (g : Nat) (x y : Nat → Option Addr) (st : Nat → St) (a b : Nat → Nat → Prop) (hB : B ≤ w.heap.size) (hS : Shelf B w g x y st a b wr) (At N : Int) (s : ByteArray) (p : Nat) (hp : p < 2) (hpl : PSymbolPlays.kilnlaw6_place.f At = some (p : Int)) :
    Calls Try.prog 55 #[.pointer (some ⟨g, 0, none⟩), .agg #[.int .i64 5, .int .i64 At, .int .i64 N, .string s]] wr fun e w' => e = .returned (.bool true) ∧ Played B w g (okOf g a b) wr w' := by
  have HSH := Aside0.mk hS
  have HPL := Aside0.mk hpl
  have hcell := hS.cells p hp
  have hgl := blk_lt hS.blk
  have hfr := hS.fresh p hp
  have hst := blk_new wr (.cells #[.int .i64 5, .int .i64 At, .int .i64 N, .string s] 70 (0, 0))
  have HST := Aside0.mk hst
  have d0 := (blk_cell hst 0).trans (show _ = some (.int .i64 5) from rfl)
  have d1 := (blk_cell hst 1).trans (show _ = some (.int .i64 At) from rfl)
  have d2 := (blk_cell hst 2).trans (show _ = some (.int .i64 N) from rfl)
  have d3 := (blk_cell hst 3).trans (show _ = some (.string s) from rfl)
  have c0 := pw_cell_below_le (below_alloc (Below.refl _ wr) (.cells #[.int .i64 5, .int .i64 At, .int .i64 N, .string s] 70 (0, 0))) hcell.1
  have c1 := pw_cell_below_le (below_alloc (Below.refl _ wr) (.cells #[.int .i64 5, .int .i64 At, .int .i64 N, .string s] 70 (0, 0))) hcell.2
  have i0 : (0 : Int) ≤ (p : Int) := by omega
  have i1 : (p : Int) < 2 := by omega
  have i2 : (p : Int).toNat = p := by omega
  clear hS hpl hst hcell
  have HBw1 := Aside0.mk (below_alloc (Below.refl _ wr) (.cells #[.int .i64 5, .int .i64 At, .int .i64 N, .string s] 70 (0, 0)))
  go_enter Try.func55, Try.ntmps55
  go_wp2_with fail
  generalize wr.alloc (Obj.cells #[Value.int IntKind.i64 5, Value.int IntKind.i64 At, Value.int IntKind.i64 N, Value.string s] 70) = w1 at *
  go_quiet ((go_at_call 56; exact place_quiet At p HPL.out _ _))
  go_wp2_with fail
  generalize hq : w1.drewN _ = w2
  have HBw2 : Aside0 (Below wr.heap.size wr w2) := ⟨by rw [← hq]; exact pw_below_drewN HBw1.out _⟩
  replace HST : Aside0 (w2.heap[wr.heap.size]? = some (.cells #[.int .i64 5, .int .i64 At, .int .i64 N, .string s] 70 (0, 0))) := ⟨by rw [← hq]; exact HST.out⟩
  replace d0 : w2.cell? ⟨wr.heap.size, 0, none⟩ = some (.int .i64 5) := by rw [← hq]; exact d0
  replace d1 : w2.cell? ⟨wr.heap.size, 1, none⟩ = some (.int .i64 At) := by rw [← hq]; exact d1
  replace d2 : w2.cell? ⟨wr.heap.size, 2, none⟩ = some (.int .i64 N) := by rw [← hq]; exact d2
  replace d3 : w2.cell? ⟨wr.heap.size, 3, none⟩ = some (.string s) := by rw [← hq]; exact d3
  replace c0 : w2.cell? ⟨g, p, none⟩ = some (.pointer (x p)) := by rw [← hq]; exact c0
  replace c1 : w2.cell? ⟨g, 2 + p, none⟩ = some (.pointer (y p)) := by rw [← hq]; exact c1
  clear hq
  go_quiet ((go_at_call 56; exact place_quiet At p HPL.out _ _))
  go_wp2_with fail
  generalize hq : w2.drewN _ = w3
  have HBw3 : Aside0 (Below wr.heap.size wr w3) := ⟨by rw [← hq]; exact pw_below_drewN HBw2.out _⟩
  replace HST : Aside0 (w3.heap[wr.heap.size]? = some (.cells #[.int .i64 5, .int .i64 At, .int .i64 N, .string s] 70 (0, 0))) := ⟨by rw [← hq]; exact HST.out⟩
  replace d0 : w3.cell? ⟨wr.heap.size, 0, none⟩ = some (.int .i64 5) := by rw [← hq]; exact d0
  replace d1 : w3.cell? ⟨wr.heap.size, 1, none⟩ = some (.int .i64 At) := by rw [← hq]; exact d1
  replace d2 : w3.cell? ⟨wr.heap.size, 2, none⟩ = some (.int .i64 N) := by rw [← hq]; exact d2
  replace d3 : w3.cell? ⟨wr.heap.size, 3, none⟩ = some (.string s) := by rw [← hq]; exact d3
  replace c0 : w3.cell? ⟨g, p, none⟩ = some (.pointer (x p)) := by rw [← hq]; exact c0
  replace c1 : w3.cell? ⟨g, 2 + p, none⟩ = some (.pointer (y p)) := by rw [← hq]; exact c1
  clear hq
  have HP := Aside0.mk ((HSH.out.pair p hp).step hB HBw3.out)
  have hpt := ptBack w3 (a p) (x p) (st p) N (by exact HP.out.t)
  have hpr := fun w0 (h : PR w0 (b p) (y p) (st p)) => prBack w0 (b p) (y p) (st p) N h
  generalize backS (st p) N = r0 at *
  obtain ⟨ee, s2⟩ := r0
  refine hpt.mono ?_; rintro e w4 ⟨rfl, ht⟩
  obtain ⟨a', hP1, hg1, hO1⟩ := HP.out.left hB ht
  have HP1 := Aside0.mk hP1
  have HO1 := Aside0.mk hO1
  have HPR := Aside0.mk (hpr w4 hP1.r)
  have hst4 : w4.heap[wr.heap.size]? = some (.cells #[.int .i64 5, .int .i64 At, .int .i64 N, .string s] 70 (0, 0)) := (hO1.block _ (blk_lt HST.out) (hfr _ (Nat.le_refl _)).1).trans HST.out
  have d2x := (blk_cell hst4 2).trans (show _ = some (.int .i64 N) from rfl)
  clear hst4 d0 d1 d2 d3 c0 c1
  clear hP1 hO1 ht hpt hpr
  go_wp2_with fail
  refine (HPR.out).mono ?_; rintro e w5 ⟨rfl, ht⟩
  obtain ⟨b', hP2, hg2, hO2⟩ := HP1.out.right hB ht
  have HP2 := Aside0.mk hP2
  have HO2 := Aside0.mk hO2
  clear hP2 hO2 ht d2x HPR
  have y2t : (ee == ee) = true := beq_self_eq_true _
  have y2f : (ee != ee) = false := bne_self_eq_false _
  go_wp2_with (go_at_call 38; (with_reducible refine (kilnlaw6_num.calls _ _ _ rfl).mono ?_); rintro e w' ⟨rfl, ⟨nd, rfl⟩⟩)
  go_ret
  exact ⟨rfl, HSH.out.done hB hp HBw3.out ((((Only.refl _ w3).trans HO1.out (fun i _ h => .inl h)).trans HO2.out (fun i _ h => .inr h)).drewN _) (HP2.out.drewN _) (turn_grow (Nat.le_trans HBw3.out.size HO1.out.size) HBw3.out.size hg1 hg2)⟩
set_option maxHeartbeats 4000000 in
set_option maxRecDepth 100000 in
theorem plays_other (B : Nat) (w wr : World) (g : Nat) (x y : Nat → Option Addr) (st : Nat → St) (a b : Nat → Nat → Prop) (hB : B ≤ w.heap.size) (hS : Shelf B w g x y st a b wr) (At N : Int) (s : ByteArray) (p : Nat) (hp : p < 2) (hpl : PSymbolPlays.kilnlaw6_place.f At = some (p : Int)) (K : Int) (hk : ∀ i : Int, 1 ≤ i → i ≤ 6 → K ≠ i) :
    Calls Try.prog 55 #[.pointer (some ⟨g, 0, none⟩), .agg #[.int .i64 K, .int .i64 At, .int .i64 N, .string s]] wr fun e w' => e = .returned (.bool true) ∧ Played B w g (okOf g a b) wr w' := by
  have HSH := Aside0.mk hS
  have HPL := Aside0.mk hpl
  have hcell := hS.cells p hp
  have hgl := blk_lt hS.blk
  have hfr := hS.fresh p hp
  have hst := blk_new wr (.cells #[.int .i64 K, .int .i64 At, .int .i64 N, .string s] 70 (0, 0))
  have HST := Aside0.mk hst
  have d0 := (blk_cell hst 0).trans (show _ = some (.int .i64 K) from rfl)
  have d1 := (blk_cell hst 1).trans (show _ = some (.int .i64 At) from rfl)
  have d2 := (blk_cell hst 2).trans (show _ = some (.int .i64 N) from rfl)
  have d3 := (blk_cell hst 3).trans (show _ = some (.string s) from rfl)
  have c0 := pw_cell_below_le (below_alloc (Below.refl _ wr) (.cells #[.int .i64 K, .int .i64 At, .int .i64 N, .string s] 70 (0, 0))) hcell.1
  have c1 := pw_cell_below_le (below_alloc (Below.refl _ wr) (.cells #[.int .i64 K, .int .i64 At, .int .i64 N, .string s] 70 (0, 0))) hcell.2
  have i0 : (0 : Int) ≤ (p : Int) := by omega
  have i1 : (p : Int) < 2 := by omega
  have i2 : (p : Int).toNat = p := by omega
  have q1 : (K == 1) = false := by simpa using hk 1 (by omega) (by omega)
  have q2 : (K == 2) = false := by simpa using hk 2 (by omega) (by omega)
  have q3 : (K == 3) = false := by simpa using hk 3 (by omega) (by omega)
  have q4 : (K == 4) = false := by simpa using hk 4 (by omega) (by omega)
  have q5 : (K == 5) = false := by simpa using hk 5 (by omega) (by omega)
  have q6 : (K == 6) = false := by simpa using hk 6 (by omega) (by omega)
  clear hS hpl hst hcell
  have HBw1 := Aside0.mk (below_alloc (Below.refl _ wr) (.cells #[.int .i64 K, .int .i64 At, .int .i64 N, .string s] 70 (0, 0)))
  go_enter Try.func55, Try.ntmps55
  go_wp2_with fail
  generalize wr.alloc (Obj.cells #[Value.int IntKind.i64 K, Value.int IntKind.i64 At, Value.int IntKind.i64 N, Value.string s] 70) = w1 at *
  go_quiet ((go_at_call 56; exact place_quiet At p HPL.out _ _))
  go_wp2_with fail
  generalize hq : w1.drewN _ = w2
  have HBw2 : Aside0 (Below wr.heap.size wr w2) := ⟨by rw [← hq]; exact pw_below_drewN HBw1.out _⟩
  replace HST : Aside0 (w2.heap[wr.heap.size]? = some (.cells #[.int .i64 K, .int .i64 At, .int .i64 N, .string s] 70 (0, 0))) := ⟨by rw [← hq]; exact HST.out⟩
  replace d0 : w2.cell? ⟨wr.heap.size, 0, none⟩ = some (.int .i64 K) := by rw [← hq]; exact d0
  replace d1 : w2.cell? ⟨wr.heap.size, 1, none⟩ = some (.int .i64 At) := by rw [← hq]; exact d1
  replace d2 : w2.cell? ⟨wr.heap.size, 2, none⟩ = some (.int .i64 N) := by rw [← hq]; exact d2
  replace d3 : w2.cell? ⟨wr.heap.size, 3, none⟩ = some (.string s) := by rw [← hq]; exact d3
  replace c0 : w2.cell? ⟨g, p, none⟩ = some (.pointer (x p)) := by rw [← hq]; exact c0
  replace c1 : w2.cell? ⟨g, 2 + p, none⟩ = some (.pointer (y p)) := by rw [← hq]; exact c1
  clear hq
  go_quiet ((go_at_call 56; exact place_quiet At p HPL.out _ _))
  go_wp2_with fail
  generalize hq : w2.drewN _ = w3
  have HBw3 : Aside0 (Below wr.heap.size wr w3) := ⟨by rw [← hq]; exact pw_below_drewN HBw2.out _⟩
  replace HST : Aside0 (w3.heap[wr.heap.size]? = some (.cells #[.int .i64 K, .int .i64 At, .int .i64 N, .string s] 70 (0, 0))) := ⟨by rw [← hq]; exact HST.out⟩
  replace d0 : w3.cell? ⟨wr.heap.size, 0, none⟩ = some (.int .i64 K) := by rw [← hq]; exact d0
  replace d1 : w3.cell? ⟨wr.heap.size, 1, none⟩ = some (.int .i64 At) := by rw [← hq]; exact d1
  replace d2 : w3.cell? ⟨wr.heap.size, 2, none⟩ = some (.int .i64 N) := by rw [← hq]; exact d2
  replace d3 : w3.cell? ⟨wr.heap.size, 3, none⟩ = some (.string s) := by rw [← hq]; exact d3
  replace c0 : w3.cell? ⟨g, p, none⟩ = some (.pointer (x p)) := by rw [← hq]; exact c0
  replace c1 : w3.cell? ⟨g, 2 + p, none⟩ = some (.pointer (y p)) := by rw [← hq]; exact c1
  clear hq
  have HP := Aside0.mk ((HSH.out.pair p hp).step hB HBw3.out)
  go_ret
  exact ⟨rfl, HSH.out.done hB hp HBw3.out ((Only.refl _ w3).drewN (0)) (HP.out.drewN (0)) (fun i hi => .inl hi)⟩
set_option maxHeartbeats 4000000 in
set_option maxRecDepth 100000 in
theorem plays_load (B : Nat) (w wr : World) (g : Nat) (x y : Nat → Option Addr) (st : Nat → St) (a b : Nat → Nat → Prop) (hB : B ≤ w.heap.size) (hS : Shelf B w g x y st a b wr) (At N : Int) (s : ByteArray) (p : Nat) (hp : p < 2) (hpl : PSymbolPlays.kilnlaw6_place.f At = some (p : Int)) :
    Calls Try.prog 55 #[.pointer (some ⟨g, 0, none⟩), .agg #[.int .i64 6, .int .i64 At, .int .i64 N, .string s]] wr fun e w' => e = .returned (.bool true) ∧ Played B w g (okOf g a b) wr w' := by
  have HSH := Aside0.mk hS
  have HPL := Aside0.mk hpl
  have hcell := hS.cells p hp
  have hgl := blk_lt hS.blk
  have hfr := hS.fresh p hp
  have hst := blk_new wr (.cells #[.int .i64 6, .int .i64 At, .int .i64 N, .string s] 70 (0, 0))
  have HST := Aside0.mk hst
  have d0 := (blk_cell hst 0).trans (show _ = some (.int .i64 6) from rfl)
  have d1 := (blk_cell hst 1).trans (show _ = some (.int .i64 At) from rfl)
  have d2 := (blk_cell hst 2).trans (show _ = some (.int .i64 N) from rfl)
  have d3 := (blk_cell hst 3).trans (show _ = some (.string s) from rfl)
  have c0 := pw_cell_below_le (below_alloc (Below.refl _ wr) (.cells #[.int .i64 6, .int .i64 At, .int .i64 N, .string s] 70 (0, 0))) hcell.1
  have c1 := pw_cell_below_le (below_alloc (Below.refl _ wr) (.cells #[.int .i64 6, .int .i64 At, .int .i64 N, .string s] 70 (0, 0))) hcell.2
  have i0 : (0 : Int) ≤ (p : Int) := by omega
  have i1 : (p : Int) < 2 := by omega
  have i2 : (p : Int).toNat = p := by omega
  clear hS hpl hst hcell
  have HBw1 := Aside0.mk (below_alloc (Below.refl _ wr) (.cells #[.int .i64 6, .int .i64 At, .int .i64 N, .string s] 70 (0, 0)))
  go_enter Try.func55, Try.ntmps55
  go_wp2_with fail
  generalize wr.alloc (Obj.cells #[Value.int IntKind.i64 6, Value.int IntKind.i64 At, Value.int IntKind.i64 N, Value.string s] 70) = w1 at *
  go_quiet ((go_at_call 56; exact place_quiet At p HPL.out _ _))
  go_wp2_with fail
  generalize hq : w1.drewN _ = w2
  have HBw2 : Aside0 (Below wr.heap.size wr w2) := ⟨by rw [← hq]; exact pw_below_drewN HBw1.out _⟩
  replace HST : Aside0 (w2.heap[wr.heap.size]? = some (.cells #[.int .i64 6, .int .i64 At, .int .i64 N, .string s] 70 (0, 0))) := ⟨by rw [← hq]; exact HST.out⟩
  replace d0 : w2.cell? ⟨wr.heap.size, 0, none⟩ = some (.int .i64 6) := by rw [← hq]; exact d0
  replace d1 : w2.cell? ⟨wr.heap.size, 1, none⟩ = some (.int .i64 At) := by rw [← hq]; exact d1
  replace d2 : w2.cell? ⟨wr.heap.size, 2, none⟩ = some (.int .i64 N) := by rw [← hq]; exact d2
  replace d3 : w2.cell? ⟨wr.heap.size, 3, none⟩ = some (.string s) := by rw [← hq]; exact d3
  replace c0 : w2.cell? ⟨g, p, none⟩ = some (.pointer (x p)) := by rw [← hq]; exact c0
  replace c1 : w2.cell? ⟨g, 2 + p, none⟩ = some (.pointer (y p)) := by rw [← hq]; exact c1
  clear hq
  go_quiet ((go_at_call 56; exact place_quiet At p HPL.out _ _))
  go_wp2_with fail
  generalize hq : w2.drewN _ = w3
  have HBw3 : Aside0 (Below wr.heap.size wr w3) := ⟨by rw [← hq]; exact pw_below_drewN HBw2.out _⟩
  replace HST : Aside0 (w3.heap[wr.heap.size]? = some (.cells #[.int .i64 6, .int .i64 At, .int .i64 N, .string s] 70 (0, 0))) := ⟨by rw [← hq]; exact HST.out⟩
  replace d0 : w3.cell? ⟨wr.heap.size, 0, none⟩ = some (.int .i64 6) := by rw [← hq]; exact d0
  replace d1 : w3.cell? ⟨wr.heap.size, 1, none⟩ = some (.int .i64 At) := by rw [← hq]; exact d1
  replace d2 : w3.cell? ⟨wr.heap.size, 2, none⟩ = some (.int .i64 N) := by rw [← hq]; exact d2
  replace d3 : w3.cell? ⟨wr.heap.size, 3, none⟩ = some (.string s) := by rw [← hq]; exact d3
  replace c0 : w3.cell? ⟨g, p, none⟩ = some (.pointer (x p)) := by rw [← hq]; exact c0
  replace c1 : w3.cell? ⟨g, 2 + p, none⟩ = some (.pointer (y p)) := by rw [← hq]; exact c1
  clear hq
  have HP := Aside0.mk ((HSH.out.pair p hp).step hB HBw3.out)
  have hld : ∃ r0, loadS (textsOf (st p)) N = r0 := ⟨_, rfl⟩
  obtain ⟨⟨ee, s2⟩, hld⟩ := hld
  have HLD := Aside0.mk hld
  clear hld
  go_wp2_with fail
  refine start_ (n := 10) (S := fun w' => w'.cell? ⟨wr.heap.size, 2, none⟩ = some (.int .i64 N)) (ds := [4]) #[false, false, false, false, false, false, false, false, false, false] (by kernel_rfl) rfl rfl ((by exact d2)) (fun hHeld => ?_)
  refine pure_ (i := 0) (N := some 148) (v := ?_) (a' := ?_) #[true, false, false, false, false, false, false, false, false, false] rfl rfl (by kernel_rfl) (fun _ _ _ h => h) (Or.inl ⟨by rfl, ?_⟩) ?_ ?_
  rotate_left
  · intro w'
    go_simp
    with_reducible rfl
  rotate_left
  · simp only [Act.put, List.setIfInBounds_toArray, List.set_cons_zero, List.set_cons_succ, i64_w, i32_w]
    rfl
  refine pure_ (i := 2) (N := some 150) (v := ?_) (a' := ?_) #[true, false, true, false, false, false, false, false, false, false] rfl rfl (by kernel_rfl) (fun _ _ _ h => h) (Or.inl ⟨by rfl, ?_⟩) ?_ ?_
  rotate_left
  · intro w'
    go_simp
    with_reducible rfl
  rotate_left
  · simp only [Act.put, List.setIfInBounds_toArray, List.set_cons_zero, List.set_cons_succ, i64_w, i32_w]
    rfl
  refine take_ (i := 3) (N := some 151) (v := ?_) (a' := ?_) #[true, false, true, true, false, false, false, false, false, false] rfl rfl (by kernel_rfl) (fun _ _ _ h => h) (Or.inl ⟨by rfl, ?_⟩) hHeld ?_ ?_
  rotate_left
  · intro w' s0
    go_simp
    with_reducible rfl
  rotate_left
  · simp only [Act.put, List.setIfInBounds_toArray, List.set_cons_zero, List.set_cons_succ, i64_w, i32_w]
    rfl
  refine one_ (i := 1) (N := some 149) #[true, true, true, true, false, false, false, false, false, false] rfl rfl (by kernel_rfl) (by decide) (fun K hK => ?_)
  refine goes_ Try.func41 (by kernel_rfl) rfl #[.pointer (x p)] (by rfl) rfl rfl (by simp only [List.map_toArray, List.map_cons, List.map_nil]; rfl) ?_
  with_reducible refine (ptAll _ (a p) (x p) (st p) (by exact HP.out.t.move (Nat.le_refl _) (fun _ _ => rfl))).mono ?_
  rintro e w4 ⟨va, rfl, hRa, hBa⟩
  obtain ⟨Aa, ca9, rfl, ka, hCa⟩ := Kd.R_reads hRa
  refine ⟨_, rfl, ?_⟩
  refine hK.out _ _ ((pw_cell_below_le hBa hHeld)) (fun hHeld => ?_)
  clear hK K
  refine norm_ (a' := ?_) ?_ ?_
  rotate_left
  · show Act.put _ (some 149) _ = _
    simp only [Act.put, List.setIfInBounds_toArray, List.set_cons_zero, List.set_cons_succ, i64_w, i32_w]
    rfl
  refine last_ (i := 4) (N := some 152) #[true, true, true, true, true, false, false, false, false, false] rfl rfl (by kernel_rfl) (by decide) (fun K hK => ?_)
  refine goes_ Try.func36 (by kernel_rfl) rfl #[.slice Aa (textsOf (st p)).length ca9, .int .i64 N] (by rfl) rfl rfl (by simp only [List.map_toArray, List.map_cons, List.map_nil]; rfl) ?_
  with_reducible refine (ptLoad_at _ Aa (textsOf (st p)).length ca9 (textsOf (st p)) N ee s2 HLD.out rfl hCa ka).mono ?_
  rintro e w5 ⟨x', rfl, hT⟩
  refine ⟨_, rfl, ?_⟩
  refine hK.out _ _ ?_
  clear hK K
  refine norm_ (a' := ?_) ?_ ?_
  rotate_left
  · show Act.put _ (some 152) _ = _
    simp only [Act.put, List.setIfInBounds_toArray, List.set_cons_zero, List.set_cons_succ, i64_w, i32_w]
    rfl
  refine pure_ (i := 5) (N := some 147) (v := ?_) (a' := ?_) #[true, true, true, true, true, true, false, false, false, false] rfl rfl (by kernel_rfl) (fun _ _ _ h => h) (Or.inl ⟨by rfl, ?_⟩) ?_ ?_
  rotate_left
  · intro w'
    go_simp
    with_reducible rfl
  rotate_left
  · simp only [Act.put, List.setIfInBounds_toArray, List.set_cons_zero, List.set_cons_succ, i64_w, i32_w]
    rfl
  refine pure_ (i := 6) (N := some 153) (v := ?_) (a' := ?_) #[true, true, true, true, true, true, true, false, false, false] rfl rfl (by kernel_rfl) (fun _ _ _ h => h) (Or.inl ⟨by rfl, ?_⟩) ?_ ?_
  rotate_left
  · intro w'
    go_simp
    with_reducible rfl
  rotate_left
  · simp only [Act.put, List.setIfInBounds_toArray, List.set_cons_zero, List.set_cons_succ, i64_w, i32_w]
    rfl
  refine pure_ (i := 7) (N := some 154) (v := ?_) (a' := ?_) #[true, true, true, true, true, true, true, true, false, false] rfl rfl (by kernel_rfl) (fun _ _ _ h => h) (Or.inl ⟨by rfl, ?_⟩) ?_ ?_
  rotate_left
  · intro w'
    go_simp
    with_reducible rfl
  rotate_left
  · simp only [Act.put, List.setIfInBounds_toArray, List.set_cons_zero, List.set_cons_succ, i64_w, i32_w]
    rfl
  refine pure_ (i := 8) (N := some 21) (v := ?_) (a' := ?_) #[true, true, true, true, true, true, true, true, true, false] rfl rfl (by kernel_rfl) (fun _ _ _ h => h) (Or.inl ⟨by rfl, ?_⟩) ?_ ?_
  rotate_left
  · intro w'
    go_simp
    with_reducible rfl
  rotate_left
  · simp only [Act.put, List.setIfInBounds_toArray, List.set_cons_zero, List.set_cons_succ, i64_w, i32_w]
    rfl
  refine pure_ (i := 9) (N := some 22) (v := ?_) (a' := ?_) #[true, true, true, true, true, true, true, true, true, true] rfl rfl (by kernel_rfl) (fun _ _ _ h => h) (Or.inl ⟨by rfl, ?_⟩) ?_ ?_
  rotate_left
  · intro w'
    go_simp
    with_reducible rfl
  rotate_left
  · simp only [Act.put, List.setIfInBounds_toArray, List.set_cons_zero, List.set_cons_succ, i64_w, i32_w]
    rfl
  refine done_ (by kernel_rfl) ?_

  have hB3 : Below w3.heap.size w3 w4 := by first | exact hBa | exact below_weaken (w0 := w3) (below_drew (Below.refl _ _)) (Nat.le_refl _) hBa
  have hB5 : Below w3.heap.size w3 w5 := below_then hB3 hB3.size hT.below
  have HB5 := Aside0.mk hB5
  have HB3 := Aside0.mk hB3
  have HT := Aside0.mk hT
  have HP5 := Aside0.mk (HP.out.step hB hB5)
  have hst4 := blk_below HST.out hB5
  have HST5 := Aside0.mk hst4
  clear HST
  have d1x := (blk_cell hst4 1).trans (show _ = some (.int .i64 At) from rfl)
  have d2x := (blk_cell hst4 2).trans (show _ = some (.int .i64 N) from rfl)
  clear d0 d1 d2 d3 c0 c1 hBa hRa hCa ka hT hB3 hB5 hst4 hHeld
  have d2 := d2x
  clear d2x
  go_wp2_with fail
  refine start_ (n := 10) (S := fun w' => w'.cell? ⟨wr.heap.size, 2, none⟩ = some (.int .i64 N)) (ds := [4]) #[false, false, false, false, false, false, false, false, false, false] (by kernel_rfl) rfl rfl ((by exact d2)) (fun hHeld => ?_)
  refine pure_ (i := 0) (N := some 156) (v := ?_) (a' := ?_) #[true, false, false, false, false, false, false, false, false, false] rfl rfl (by kernel_rfl) (fun _ _ _ h => h) (Or.inl ⟨by rfl, ?_⟩) ?_ ?_
  rotate_left
  · intro w'
    go_simp
    with_reducible rfl
  rotate_left
  · simp only [Act.put, List.setIfInBounds_toArray, List.set_cons_zero, List.set_cons_succ, i64_w, i32_w]
    rfl
  refine pure_ (i := 2) (N := some 158) (v := ?_) (a' := ?_) #[true, false, true, false, false, false, false, false, false, false] rfl rfl (by kernel_rfl) (fun _ _ _ h => h) (Or.inl ⟨by rfl, ?_⟩) ?_ ?_
  rotate_left
  · intro w'
    go_simp
    with_reducible rfl
  rotate_left
  · simp only [Act.put, List.setIfInBounds_toArray, List.set_cons_zero, List.set_cons_succ, i64_w, i32_w]
    rfl
  refine take_ (i := 3) (N := some 159) (v := ?_) (a' := ?_) #[true, false, true, true, false, false, false, false, false, false] rfl rfl (by kernel_rfl) (fun _ _ _ h => h) (Or.inl ⟨by rfl, ?_⟩) hHeld ?_ ?_
  rotate_left
  · intro w' s0
    go_simp
    with_reducible rfl
  rotate_left
  · simp only [Act.put, List.setIfInBounds_toArray, List.set_cons_zero, List.set_cons_succ, i64_w, i32_w]
    rfl
  refine one_ (i := 1) (N := some 157) #[true, true, true, true, false, false, false, false, false, false] rfl rfl (by kernel_rfl) (by decide) (fun K hK => ?_)
  refine goes_ Try.func42 (by kernel_rfl) rfl #[.pointer (y p)] (by rfl) rfl rfl (by simp only [List.map_toArray, List.map_cons, List.map_nil]; rfl) ?_
  with_reducible refine (prAll _ (b p) (y p) (st p) (by exact HP5.out.r.move (Nat.le_refl _) (fun _ _ => rfl))).mono ?_
  rintro e w6 ⟨vb, rfl, hRb, hBb⟩
  obtain ⟨Ab, cb9, rfl, kb, hCb⟩ := Kd.R_reads hRb
  refine ⟨_, rfl, ?_⟩
  refine hK.out _ _ ((pw_cell_below_le hBb hHeld)) (fun hHeld => ?_)
  clear hK K
  refine norm_ (a' := ?_) ?_ ?_
  rotate_left
  · show Act.put _ (some 157) _ = _
    simp only [Act.put, List.setIfInBounds_toArray, List.set_cons_zero, List.set_cons_succ, i64_w, i32_w]
    rfl
  refine last_ (i := 4) (N := some 160) #[true, true, true, true, true, false, false, false, false, false] rfl rfl (by kernel_rfl) (by decide) (fun K hK => ?_)
  refine goes_ Try.func37 (by kernel_rfl) rfl #[.slice Ab (textsOf (st p)).length cb9, .int .i64 N] (by rfl) rfl rfl (by simp only [List.map_toArray, List.map_cons, List.map_nil]; rfl) ?_
  with_reducible refine (prLoad_at _ Ab (textsOf (st p)).length cb9 (textsOf (st p)) N ee s2 HLD.out rfl hCb kb).mono ?_
  rintro e w7 ⟨y', rfl, hR⟩
  refine ⟨_, rfl, ?_⟩
  refine hK.out _ _ ?_
  clear hK K
  refine norm_ (a' := ?_) ?_ ?_
  rotate_left
  · show Act.put _ (some 160) _ = _
    simp only [Act.put, List.setIfInBounds_toArray, List.set_cons_zero, List.set_cons_succ, i64_w, i32_w]
    rfl
  refine pure_ (i := 5) (N := some 155) (v := ?_) (a' := ?_) #[true, true, true, true, true, true, false, false, false, false] rfl rfl (by kernel_rfl) (fun _ _ _ h => h) (Or.inl ⟨by rfl, ?_⟩) ?_ ?_
  rotate_left
  · intro w'
    go_simp
    with_reducible rfl
  rotate_left
  · simp only [Act.put, List.setIfInBounds_toArray, List.set_cons_zero, List.set_cons_succ, i64_w, i32_w]
    rfl
  refine pure_ (i := 6) (N := some 161) (v := ?_) (a' := ?_) #[true, true, true, true, true, true, true, false, false, false] rfl rfl (by kernel_rfl) (fun _ _ _ h => h) (Or.inl ⟨by rfl, ?_⟩) ?_ ?_
  rotate_left
  · intro w'
    go_simp
    with_reducible rfl
  rotate_left
  · simp only [Act.put, List.setIfInBounds_toArray, List.set_cons_zero, List.set_cons_succ, i64_w, i32_w]
    rfl
  refine pure_ (i := 7) (N := some 162) (v := ?_) (a' := ?_) #[true, true, true, true, true, true, true, true, false, false] rfl rfl (by kernel_rfl) (fun _ _ _ h => h) (Or.inl ⟨by rfl, ?_⟩) ?_ ?_
  rotate_left
  · intro w'
    go_simp
    with_reducible rfl
  rotate_left
  · simp only [Act.put, List.setIfInBounds_toArray, List.set_cons_zero, List.set_cons_succ, i64_w, i32_w]
    rfl
  refine pure_ (i := 8) (N := some 23) (v := ?_) (a' := ?_) #[true, true, true, true, true, true, true, true, true, false] rfl rfl (by kernel_rfl) (fun _ _ _ h => h) (Or.inl ⟨by rfl, ?_⟩) ?_ ?_
  rotate_left
  · intro w'
    go_simp
    with_reducible rfl
  rotate_left
  · simp only [Act.put, List.setIfInBounds_toArray, List.set_cons_zero, List.set_cons_succ, i64_w, i32_w]
    rfl
  refine pure_ (i := 9) (N := some 24) (v := ?_) (a' := ?_) #[true, true, true, true, true, true, true, true, true, true] rfl rfl (by kernel_rfl) (fun _ _ _ h => h) (Or.inl ⟨by rfl, ?_⟩) ?_ ?_
  rotate_left
  · intro w'
    go_simp
    with_reducible rfl
  rotate_left
  · simp only [Act.put, List.setIfInBounds_toArray, List.set_cons_zero, List.set_cons_succ, i64_w, i32_w]
    rfl
  refine done_ (by kernel_rfl) ?_

  have hB3 : Below w5.heap.size w5 w6 := by first | exact hBb | exact below_weaken (w0 := w5) (below_drew (Below.refl _ _)) (Nat.le_refl _) hBb
  have hB7 : Below w5.heap.size w5 w7 := below_then hB3 hB3.size hR.below
  have hP : ∃ ok1 ok2, Pair w4.heap.size w4 x' y' s2 s2 ok1 ok2 w7 := Pair.make HT.out (hR.back hB3)
  obtain ⟨a', b', hP⟩ := hP
  have HN := Aside0.mk hP
  have HB7 := Aside0.mk hB7
  have HP7 := Aside0.mk (HP5.out.step hB hB7)
  have hst4 := blk_below HST5.out hB7
  have HST7 := Aside0.mk hst4
  have d1 := (blk_cell hst4 1).trans (show _ = some (.int .i64 At) from rfl)
  clear d2 d1x hBb hRb hCb kb hR hB3 hB7 hP hst4 hHeld HST5
  have f1 : (ee != ee) = false := bne_self_eq_false _
  have f3 : (x'.isNone != y'.isNone) = false := by rw [HN.out.nil]; exact bne_self_eq_false _
  have f5 : (!(x'.isNone == y'.isNone)) = false := by rw [HN.out.nil]; simp
  have f7 : x'.isNone = y'.isNone := HN.out.nil
  cases s2 with
  | none =>
    obtain rfl : x' = none := HN.out.t
    obtain rfl : y' = none := HN.out.r
    go_wp2_with (go_at_call 38; (with_reducible refine (kilnlaw6_num.calls _ _ _ rfl).mono ?_); rintro e w' ⟨rfl, ⟨nd, rfl⟩⟩)
    go_ret
    exact ⟨rfl, HSH.out.done hB hp HBw3.out ((((Only.refl _ w3).below HB5.out).below HB7.out).drewN _) (HP7.out.drewN _) (fun i hi => .inl hi)⟩
  | some q =>
    obtain ⟨gx, rfl, _⟩ := HN.out.t
    obtain ⟨gy, rfl, _⟩ := HN.out.r
    go_wp2_with (go_at_call 38; (with_reducible refine (kilnlaw6_num.calls _ _ _ rfl).mono ?_); rintro e w' ⟨rfl, ⟨nd, rfl⟩⟩)
    generalize hq : w7.drewN _ = w8
    have HB8 : Aside0 (Below wr.heap.size wr w8) := ⟨by rw [← hq]; exact pw_below_drewN (below_then (below_then HBw3.out HBw3.out.size HB5.out) (Nat.le_trans HBw3.out.size HB5.out.size) HB7.out) _⟩
    have HN8 : Aside0 (Pair w4.heap.size w4 (some ⟨gx, 0, none⟩) (some ⟨gy, 0, none⟩) (some q) (some q) a' b' w8) := ⟨by rw [← hq]; exact HN.out.drewN _⟩
    replace HST7 : Aside0 (w8.heap[wr.heap.size]? = some (.cells #[.int .i64 6, .int .i64 At, .int .i64 N, .string s] 70 (0, 0))) := ⟨by rw [← hq]; exact HST7.out⟩
    replace d1 : w8.cell? ⟨wr.heap.size, 1, none⟩ = some (.int .i64 At) := by rw [← hq]; exact d1
    have HB48 : Aside0 (Below w4.heap.size w4 w8) := ⟨HN8.out.below⟩
    clear hq f1 f3 f5 f7 HN HP7
    have hsp := shelf_put (W := w8) (blk_below HSH.out.blk HB8.out) hp (some ⟨gx, 0, none⟩) (some ⟨gy, 0, none⟩)
    have HSP := Aside0.mk hsp.2.2
    obtain ⟨⟨c0, z0⟩, ⟨c1, z1⟩, _⟩ := hsp
    refine start_ (n := 9) (S := fun w' => w'.cell? ⟨wr.heap.size, 1, none⟩ = some (.int .i64 At)) (ds := [8]) #[false, false, false, false, false, false, false, false, false] (by kernel_rfl) rfl rfl ((by exact d1)) (fun hHeld => ?_)
    refine pure_ (i := 0) (N := some 176) (v := ?_) (a' := ?_) #[true, false, false, false, false, false, false, false, false] rfl rfl (by kernel_rfl) (fun _ _ _ h => h) (Or.inl ⟨by rfl, ?_⟩) ?_ ?_
    rotate_left
    · intro w'
      go_simp
      with_reducible rfl
    rotate_left
    · simp only [Act.put, List.setIfInBounds_toArray, List.set_cons_zero, List.set_cons_succ, i64_w, i32_w]
      rfl
    refine pure_ (i := 1) (N := some 177) (v := ?_) (a' := ?_) #[true, true, false, false, false, false, false, false, false] rfl rfl (by kernel_rfl) (fun _ _ _ h => h) (Or.inl ⟨by rfl, ?_⟩) ?_ ?_
    rotate_left
    · intro w'
      go_simp
      with_reducible rfl
    rotate_left
    · simp only [Act.put, List.setIfInBounds_toArray, List.set_cons_zero, List.set_cons_succ, i64_w, i32_w]
      rfl
    refine pure_ (i := 4) (N := some 180) (v := ?_) (a' := ?_) #[true, true, false, false, true, false, false, false, false] rfl rfl (by kernel_rfl) (fun _ _ _ h => h) (Or.inl ⟨by rfl, ?_⟩) ?_ ?_
    rotate_left
    · intro w'
      go_simp
      with_reducible rfl
    rotate_left
    · simp only [Act.put, List.setIfInBounds_toArray, List.set_cons_zero, List.set_cons_succ, i64_w, i32_w]
      rfl
    refine pure_ (i := 5) (N := some 181) (v := ?_) (a' := ?_) #[true, true, false, false, true, true, false, false, false] rfl rfl (by kernel_rfl) (fun _ _ _ h => h) (Or.inl ⟨by rfl, ?_⟩) ?_ ?_
    rotate_left
    · intro w'
      go_simp
      with_reducible rfl
    rotate_left
    · simp only [Act.put, List.setIfInBounds_toArray, List.set_cons_zero, List.set_cons_succ, i64_w, i32_w]
      rfl
    refine pure_ (i := 6) (N := some 182) (v := ?_) (a' := ?_) #[true, true, false, false, true, true, true, false, false] rfl rfl (by kernel_rfl) (fun _ _ _ h => h) (Or.inl ⟨by rfl, ?_⟩) ?_ ?_
    rotate_left
    · intro w'
      go_simp
      with_reducible rfl
    rotate_left
    · simp only [Act.put, List.setIfInBounds_toArray, List.set_cons_zero, List.set_cons_succ, i64_w, i32_w]
      rfl
    refine take_ (i := 2) (N := some 178) (v := ?_) (a' := ?_) #[true, true, true, false, true, true, true, false, false] rfl rfl (by kernel_rfl) (fun _ _ _ h => h) (Or.inl ⟨by rfl, ?_⟩) hHeld ?_ ?_
    rotate_left
    · intro w' s0
      go_simp
      with_reducible rfl
    rotate_left
    · simp only [Act.put, List.setIfInBounds_toArray, List.set_cons_zero, List.set_cons_succ, i64_w, i32_w]
      rfl
    refine one_ (i := 3) (N := some 179) #[true, true, true, true, true, true, true, false, false] rfl rfl (by kernel_rfl) (by decide) (fun K hK => ?_)
    refine goes_ Try.func56 (by kernel_rfl) rfl #[.int .i64 At] (by rfl) rfl rfl (by simp only [List.map_toArray, List.map_cons, List.map_nil]; rfl) ?_
    with_reducible refine (PSymbolPlays.kilnlaw6_place.calls At p _ HPL.out).mono ?_
    rintro e w' ⟨rfl, ⟨nd28, rfl⟩⟩
    refine ⟨_, rfl, ?_⟩
    refine hK.out _ _ ((by exact hHeld)) (fun hHeld => ?_)
    clear hK K
    refine norm_ (a' := ?_) ?_ ?_
    rotate_left
    · show Act.put _ (some 179) _ = _
      simp only [Act.put, List.setIfInBounds_toArray, List.set_cons_zero, List.set_cons_succ, i64_w, i32_w]
      rfl
    refine pure_ (i := 7) (N := some 183) (v := ?_) (a' := ?_) #[true, true, true, true, true, true, true, true, false] rfl rfl (by kernel_rfl) (fun _ _ _ h => h) (Or.inl ⟨by rfl, ?_⟩) ?_ ?_
    rotate_left
    · intro w'
      go_simp
      with_reducible rfl
    rotate_left
    · simp only [Act.put, List.setIfInBounds_toArray, List.set_cons_zero, List.set_cons_succ, i64_w, i32_w]
      rfl
    refine last_ (i := 8) (N := none) #[true, true, true, true, true, true, true, true, true] rfl rfl (by kernel_rfl) (by decide) (fun K hK => ?_)
    refine skip_ (w1 := ?_) (by rfl) rfl ?_ ?_
    rotate_left
    · go_simp
      rfl
    refine hK.out _ _ ?_
    clear hK K
    refine done_ (by kernel_rfl) ?_

    have hO9 : Only (fun i => i = g) w8 ((w8.drewN (1 + nd28)).setCell ⟨g, p, none⟩ (.pointer (some ⟨gx, 0, none⟩))) := ((Only.refl (fun i => i = g) w8).drewN (1 + nd28)).setCell (p := ⟨g, p, none⟩) (fun _ => rfl) _
    have hst9 := (hO9.block wr.heap.size (blk_lt HST7.out) (by omega)).trans HST7.out
    have d1x := (blk_cell hst9 1).trans (show _ = some (.int .i64 At) from rfl)
    have c1x : ((w8.drewN (1 + nd28)).setCell ⟨g, p, none⟩ (.pointer (some ⟨gx, 0, none⟩))).cell? ⟨g, 2 + p, none⟩ = some (.pointer (y p)) := c1
    have z1x : ((w8.drewN (1 + nd28)).setCell ⟨g, p, none⟩ (.pointer (some ⟨gx, 0, none⟩))).frozen? ⟨g, 2 + p, none⟩ = false := z1
    have HSPx : Aside0 ((((w8.drewN (1 + nd28)).setCell ⟨g, p, none⟩ (.pointer (some ⟨gx, 0, none⟩))).setCell ⟨g, 2 + p, none⟩ (.pointer (some ⟨gy, 0, none⟩))).heap[g]? = some (.cells #[.pointer (upd x p (some ⟨gx, 0, none⟩) 0), .pointer (upd x p (some ⟨gx, 0, none⟩) 1), .pointer (upd y p (some ⟨gy, 0, none⟩) 0), .pointer (upd y p (some ⟨gy, 0, none⟩) 1)] 67 (0, 0))) := ⟨HSP.out⟩
    have HO9 := Aside0.mk hO9
    clear c0 z0 c1 z1 d1 HSP hO9 hst9 hHeld
    generalize (w8.drewN (1 + nd28)).setCell ⟨g, p, none⟩ (.pointer (some ⟨gx, 0, none⟩)) = w9 at *
    have d1 := d1x
    have c1 := c1x
    have z1 := z1x
    clear d1x c1x z1x
    go_wp2_with fail
    refine start_ (n := 9) (S := fun w' => w'.cell? ⟨wr.heap.size, 1, none⟩ = some (.int .i64 At)) (ds := [8]) #[false, false, false, false, false, false, false, false, false] (by kernel_rfl) rfl rfl ((by exact d1)) (fun hHeld => ?_)
    refine pure_ (i := 0) (N := some 184) (v := ?_) (a' := ?_) #[true, false, false, false, false, false, false, false, false] rfl rfl (by kernel_rfl) (fun _ _ _ h => h) (Or.inl ⟨by rfl, ?_⟩) ?_ ?_
    rotate_left
    · intro w'
      go_simp
      with_reducible rfl
    rotate_left
    · simp only [Act.put, List.setIfInBounds_toArray, List.set_cons_zero, List.set_cons_succ, i64_w, i32_w]
      rfl
    refine pure_ (i := 1) (N := some 185) (v := ?_) (a' := ?_) #[true, true, false, false, false, false, false, false, false] rfl rfl (by kernel_rfl) (fun _ _ _ h => h) (Or.inl ⟨by rfl, ?_⟩) ?_ ?_
    rotate_left
    · intro w'
      go_simp
      with_reducible rfl
    rotate_left
    · simp only [Act.put, List.setIfInBounds_toArray, List.set_cons_zero, List.set_cons_succ, i64_w, i32_w]
      rfl
    refine pure_ (i := 4) (N := some 188) (v := ?_) (a' := ?_) #[true, true, false, false, true, false, false, false, false] rfl rfl (by kernel_rfl) (fun _ _ _ h => h) (Or.inl ⟨by rfl, ?_⟩) ?_ ?_
    rotate_left
    · intro w'
      go_simp
      with_reducible rfl
    rotate_left
    · simp only [Act.put, List.setIfInBounds_toArray, List.set_cons_zero, List.set_cons_succ, i64_w, i32_w]
      rfl
    refine pure_ (i := 5) (N := some 189) (v := ?_) (a' := ?_) #[true, true, false, false, true, true, false, false, false] rfl rfl (by kernel_rfl) (fun _ _ _ h => h) (Or.inl ⟨by rfl, ?_⟩) ?_ ?_
    rotate_left
    · intro w'
      go_simp
      with_reducible rfl
    rotate_left
    · simp only [Act.put, List.setIfInBounds_toArray, List.set_cons_zero, List.set_cons_succ, i64_w, i32_w]
      rfl
    refine pure_ (i := 6) (N := some 190) (v := ?_) (a' := ?_) #[true, true, false, false, true, true, true, false, false] rfl rfl (by kernel_rfl) (fun _ _ _ h => h) (Or.inl ⟨by rfl, ?_⟩) ?_ ?_
    rotate_left
    · intro w'
      go_simp
      with_reducible rfl
    rotate_left
    · simp only [Act.put, List.setIfInBounds_toArray, List.set_cons_zero, List.set_cons_succ, i64_w, i32_w]
      rfl
    refine take_ (i := 2) (N := some 186) (v := ?_) (a' := ?_) #[true, true, true, false, true, true, true, false, false] rfl rfl (by kernel_rfl) (fun _ _ _ h => h) (Or.inl ⟨by rfl, ?_⟩) hHeld ?_ ?_
    rotate_left
    · intro w' s0
      go_simp
      with_reducible rfl
    rotate_left
    · simp only [Act.put, List.setIfInBounds_toArray, List.set_cons_zero, List.set_cons_succ, i64_w, i32_w]
      rfl
    refine one_ (i := 3) (N := some 187) #[true, true, true, true, true, true, true, false, false] rfl rfl (by kernel_rfl) (by decide) (fun K hK => ?_)
    refine goes_ Try.func56 (by kernel_rfl) rfl #[.int .i64 At] (by rfl) rfl rfl (by simp only [List.map_toArray, List.map_cons, List.map_nil]; rfl) ?_
    with_reducible refine (PSymbolPlays.kilnlaw6_place.calls At p _ HPL.out).mono ?_
    rintro e w' ⟨rfl, ⟨nd29, rfl⟩⟩
    refine ⟨_, rfl, ?_⟩
    refine hK.out _ _ ((by exact hHeld)) (fun hHeld => ?_)
    clear hK K
    refine norm_ (a' := ?_) ?_ ?_
    rotate_left
    · show Act.put _ (some 187) _ = _
      simp only [Act.put, List.setIfInBounds_toArray, List.set_cons_zero, List.set_cons_succ, i64_w, i32_w]
      rfl
    refine pure_ (i := 7) (N := some 191) (v := ?_) (a' := ?_) #[true, true, true, true, true, true, true, true, false] rfl rfl (by kernel_rfl) (fun _ _ _ h => h) (Or.inl ⟨by rfl, ?_⟩) ?_ ?_
    rotate_left
    · intro w'
      go_simp
      with_reducible rfl
    rotate_left
    · simp only [Act.put, List.setIfInBounds_toArray, List.set_cons_zero, List.set_cons_succ, i64_w, i32_w]
      rfl
    refine last_ (i := 8) (N := none) #[true, true, true, true, true, true, true, true, true] rfl rfl (by kernel_rfl) (by decide) (fun K hK => ?_)
    refine skip_ (w1 := ?_) (by rfl) rfl ?_ ?_
    rotate_left
    · go_simp
      rfl
    refine hK.out _ _ ?_
    clear hK K
    refine done_ (by kernel_rfl) ?_

    have hO10 : Only (fun i => i = g) w8 ((w9.drewN (1 + nd29)).setCell ⟨g, 2 + p, none⟩ (.pointer (some ⟨gy, 0, none⟩))) := (HO9.out.drewN (1 + nd29)).setCell (p := ⟨g, 2 + p, none⟩) (fun _ => rfl) _
    go_wp2
    go_ret
    exact ⟨rfl, HSH.out.loaded hB hp (below_then HBw3.out HBw3.out.size HB3.out) HB8.out HN8.out hO10 HSPx.out⟩
theorem plays_calls (B : Nat) (w wr : World) (g : Nat) (st : Nat → St) (ok : Nat → Prop) (hB : B ≤ w.heap.size) (hS : OnShelf B w g st ok wr) (K At N : Int) (s : ByteArray) (hs : s.size ≤ maxLen) :
    Calls Try.prog 55 #[.pointer (some ⟨g, 0, none⟩), .agg #[.int .i64 K, .int .i64 At, .int .i64 N, .string s]] wr fun e w' => e = .returned (.bool true) ∧ Played B w g ok wr w' := by
  obtain ⟨x, y, a, b, h, hok⟩ := hS
  obtain rfl : ok = okOf g a b := funext fun i => propext (hok i)
  obtain ⟨p, hp, hpl⟩ := place_is At
  by_cases hk : 1 ≤ K ∧ K ≤ 6
  · have hc : K = 1 ∨ K = 2 ∨ K = 3 ∨ K = 4 ∨ K = 5 ∨ K = 6 := by omega
    rcases hc with rfl | rfl | rfl | rfl | rfl | rfl
    · exact plays_add B w wr g x y st a b hB h At N s p hp hpl
    · exact plays_find B w wr g x y st a b hB h At N s p hp hpl hs
    · exact plays_text B w wr g x y st a b hB h At N s p hp hpl
    · exact plays_all B w wr g x y st a b hB h At N s p hp hpl
    · exact plays_back B w wr g x y st a b hB h At N s p hp hpl
    · exact plays_load B w wr g x y st a b hB h At N s p hp hpl
  · exact plays_other B w wr g x y st a b hB h At N s p hp hpl K (fun i h1 h2 e => hk (by omega))
theorem OnShelf.below {B : Nat} {w : World} {g : Nat} {st : Nat → St} {ok : Nat → Prop} {wr : World} (h : OnShelf B w g st ok wr) : Below B w wr := by
  obtain ⟨x, y, a, b, h, _⟩ := h
  exact (h.pair 0 (by omega)).below
theorem OnShelf.drewN {B : Nat} {w : World} {g : Nat} {st : Nat → St} {ok : Nat → Prop} {wr : World} (h : OnShelf B w g st ok wr) (n : Nat) : OnShelf B w g st ok (wr.drewN n) := by
  obtain ⟨x, y, a, b, h, k⟩ := h
  exact ⟨x, y, a, b, ⟨h.blk, fun k hk => (h.pair k hk).drewN n, h.apart, h.own⟩, k⟩
/-- a step of the law's script -/
structure StepT where
  K : Int
  At : Int
  N : Int
  s : ByteArray
structure StepsAt (w : World) (A : Option Addr) (l : List StepT) : Prop where
  max : l.length ≤ maxLen
  at_ : ∀ i (hi : i < l.length), ∃ ad, A = some ad ∧ (w.cell? (ad.add (i * 4)) = some (.int .i64 l[i].K) ∧ w.cell? ⟨(ad.add (i * 4)).block, (ad.add (i * 4)).off + 1, none⟩ = some (.int .i64 l[i].At) ∧
    w.cell? ⟨(ad.add (i * 4)).block, (ad.add (i * 4)).off + 2, none⟩ = some (.int .i64 l[i].N) ∧ w.cell? ⟨(ad.add (i * 4)).block, (ad.add (i * 4)).off + 3, none⟩ = some (.string l[i].s)) ∧ l[i].s.size ≤ maxLen
end Go.Proofs.Ytcnjdgafemgaeaa.Sym
