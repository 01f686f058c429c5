/- The shelf of two tables and of the reference's two: contracts of its functions. Conditions: those of Shelf, Pair, IdleAt. -/
import Derived.Test.YtcnjdgafemgaeaaWalkSymbolLoads
import Derived.Outline
import Derived.Test.YtcnjdgafemgaeaaPSymbolPlaysx1
namespace Go.Proofs.Ytcnjdgafemgaeaa.Sym
open Go.RowKit Go.Maps Go.WideMaps Go.Proofs.Ytcnjdgafemgaeaa.PSymbolFirst Go.Proofs.YtcnjdgafemgaeaaW.PrintWords Go.Proofs.YtcnjdgafemgaeaaW.PrintLast Go.Proofs.YtcnjdgafemgaeaaW.PrintMore
attribute [local go_sem] max2_int min2_int max_two min_two max_three min_three max_four min_four
set_option linter.unusedVariables false
set_option linter.unusedSimpArgs false
/-- a pointer to a table that no call made -/
def IdleAt (w : World) (x : Option Addr) : Prop := x = none ∨ ∃ g, x = some ⟨g, 0, none⟩ ∧ w.cell? ⟨g, 2, none⟩ = some (.map none)
theorem IdleAt.drewN {w : World} {x : Option Addr} (h : IdleAt w x) (n : Nat) : IdleAt (w.drewN n) x := h
theorem none_zero (w : World) (g : Nat) (c : w.cell? ⟨g, 2, none⟩ = some (.map none)) :
    Calls Try.prog 67 #[.pointer (some ⟨g, 0, none⟩)] w fun e w' => e = .returned (.bool true) ∧ Drawn0 w w' := by
  have hm := fun (W : World) (r : Option Nat) => run_eql_map_nil (P := Try.prog) W 88 9 3 r Try.underlying88
  go_enter Try.func67, Try.ntmps67
  go_wp2
  go_ret
  exact ⟨by first | rfl | (simp; done) | (simp [*]; done), by repeat (first | exact Drawn0.refl _ | apply Drawn0.step)⟩
theorem idAdd (w : World) (x : Option Addr) (s : ByteArray) (h : IdleAt w x) : Calls Try.prog 43 #[.pointer x, .string s] w fun e w' => e = .returned (.tuple #[.int .i64 0, .int .i64 2]) ∧ Drawn0 w w' := by
  rcases h with rfl | ⟨g, rfl, c⟩
  · exact symAdd_nil w s
  · go_enter Try.func43, Try.ntmps43
    go_wp2_with (go_at_call 67; (with_reducible refine (none_zero _ g (by exact c)).mono ?_); rintro e w' ⟨rfl, ⟨nd, rfl⟩⟩)
    go_ret2
    exact ⟨by first | rfl | (simp; done) | (simp [*]; done), by repeat (first | exact Drawn0.refl _ | apply Drawn0.step)⟩
theorem idFind (w : World) (x : Option Addr) (s : ByteArray) (h : IdleAt w x) : Calls Try.prog 50 #[.pointer x, .string s] w fun e w' => e = .returned (.tuple #[.int .i64 0, .bool false]) ∧ Drawn0 w w' := by
  rcases h with rfl | ⟨g, rfl, c⟩
  · exact symFind_nil w s
  · go_enter Try.func50, Try.ntmps50
    go_wp2_with (go_at_call 67; (with_reducible refine (none_zero _ g (by exact c)).mono ?_); rintro e w' ⟨rfl, ⟨nd, rfl⟩⟩)
    go_ret2
    exact ⟨by first | rfl | (simp; done) | (simp [*]; done), by repeat (first | exact Drawn0.refl _ | apply Drawn0.step)⟩
theorem idText (w : World) (x : Option Addr) (n : Int) (h : IdleAt w x) : Calls Try.prog 51 #[.pointer x, .int .i64 n] w fun e w' => e = .returned (.tuple #[.string ByteArray.empty, .int .i64 2]) ∧ Drawn0 w w' := by
  rcases h with rfl | ⟨g, rfl, c⟩
  · exact symText_nil w n
  · go_enter Try.func51, Try.ntmps51
    go_wp2_with (go_at_call 67; (with_reducible refine (none_zero _ g (by exact c)).mono ?_); rintro e w' ⟨rfl, ⟨nd, rfl⟩⟩)
    go_ret2
    exact ⟨by first | rfl | (simp; done) | (simp [*]; done), by repeat (first | exact Drawn0.refl _ | apply Drawn0.step)⟩
theorem idBack (w : World) (x : Option Addr) (n : Int) (h : IdleAt w x) : Calls Try.prog 53 #[.pointer x, .int .i64 n] w fun e w' => e = .returned (.int .i64 2) ∧ Drawn0 w w' := by
  rcases h with rfl | ⟨g, rfl, c⟩
  · exact symBack_nil w n
  · go_enter Try.func53, Try.ntmps53
    go_wp2_with (go_at_call 67; (with_reducible refine (none_zero _ g (by exact c)).mono ?_); rintro e w' ⟨rfl, ⟨nd, rfl⟩⟩)
    go_ret
    exact ⟨by first | rfl | (simp; done) | (simp [*]; done), by repeat (first | exact Drawn0.refl _ | apply Drawn0.step)⟩
theorem idAll (w : World) (x : Option Addr) (h : IdleAt w x) : Calls Try.prog 41 #[.pointer x] w fun e w' => e = .returned (.slice none 0 0) ∧ Drawn0 w w' := by
  rcases h with rfl | ⟨g, rfl, c⟩
  · exact symAll_nil w
  · go_enter Try.func41, Try.ntmps41
    go_wp2_with (go_at_call 67; (with_reducible refine (none_zero _ g (by exact c)).mono ?_); rintro e w' ⟨rfl, ⟨nd, rfl⟩⟩)
    go_ret
    exact ⟨by first | rfl | (simp; done) | (simp [*]; done), by repeat (first | exact Drawn0.refl _ | apply Drawn0.step)⟩
theorem idCount (w : World) (x : Option Addr) (h : IdleAt w x) : Calls Try.prog 45 #[.pointer x] w fun e w' => e = .returned (.int .i64 0) ∧ Drawn0 w w' := by
  rcases h with rfl | ⟨g, rfl, c⟩
  · exact symCount_nil w
  · go_enter Try.func45, Try.ntmps45
    go_wp2_with (go_at_call 67; (with_reducible refine (none_zero _ g (by exact c)).mono ?_); rintro e w' ⟨rfl, ⟨nd, rfl⟩⟩)
    go_ret
    exact ⟨by first | rfl | (simp; done) | (simp [*]; done), by repeat (first | exact Drawn0.refl _ | apply Drawn0.step)⟩
set_option maxHeartbeats 2000000 in
set_option maxRecDepth 100000 in
theorem idle_calls (w : World) (x : Option Addr) (h : IdleAt w x) : Calls Try.prog 69 #[.pointer x] w fun e w' => e = .returned (.bool true) ∧ Drawn0 w w' := by
  have H := Aside0.mk h
  clear h
  go_enter Try.func69, Try.ntmps69
  go_wp2_with fail
  refine (idAdd _ x _ (by exact H.out)).mono ?_; rintro e w' ⟨rfl, ⟨n1, rfl⟩⟩
  go_wp2_with fail
  refine (idAdd _ x _ (by exact H.out.drewN _)).mono ?_; rintro e w' ⟨rfl, ⟨n2, rfl⟩⟩
  go_wp2_with fail
  refine (idFind _ x _ (by exact H.out.drewN _)).mono ?_; rintro e w' ⟨rfl, ⟨n3, rfl⟩⟩
  go_wp2_with fail
  refine (idText _ x _ (by exact H.out.drewN _)).mono ?_; rintro e w' ⟨rfl, ⟨n4, rfl⟩⟩
  go_wp2_with fail
  refine (idBack _ x _ (by exact H.out.drewN _)).mono ?_; rintro e w' ⟨rfl, ⟨n5, rfl⟩⟩
  go_wp2_with fail
  refine (idAll _ x (by exact H.out.drewN _)).mono ?_; rintro e w' ⟨rfl, ⟨n6, rfl⟩⟩
  go_wp2_with fail
  refine (idCount _ x (by exact H.out.drewN _)).mono ?_; rintro e w' ⟨rfl, ⟨n7, rfl⟩⟩
  go_wp2_with (go_at_call 38; (with_reducible refine (kilnlaw6_num.calls _ _ _ rfl).mono ?_); rintro e w' ⟨rfl, ⟨nd, rfl⟩⟩)
  go_ret
  exact ⟨by first | rfl | (simp; done) | (simp [*]; done), by repeat (first | exact Drawn0.refl _ | apply Drawn0.step)⟩
def upd {α : Type} (f : Nat → α) (p : Nat) (v : α) (k : Nat) : α := if k = p then v else f k
structure Shelf (B : Nat) (w : World) (g : Nat) (x y : Nat → Option Addr) (st : Nat → St) (a b : Nat → Nat → Prop) (wr : World) : Prop where
  blk : wr.heap[g]? = some (.cells #[.pointer (x 0), .pointer (x 1), .pointer (y 0), .pointer (y 1)] 67 (0, 0))
  pair : ∀ k, k < 2 → Pair B w (x k) (y k) (st k) (st k) (a k) (b k) wr
  apart : ∀ j k, j < 2 → k < 2 → j ≠ k → ∀ i, a j i ∨ b j i → ¬ (a k i ∨ b k i)
  own : B ≤ g ∧ ∀ k, k < 2 → ¬ a k g ∧ ¬ b k g
/-- the shelf's blocks are those of ok -/
def OnShelf (B : Nat) (w : World) (g : Nat) (st : Nat → St) (ok : Nat → Prop) (wr : World) : Prop :=
  ∃ x y a b, Shelf B w g x y st a b wr ∧ ∀ i, ok i ↔ (i = g ∨ a 0 i ∨ b 0 i ∨ a 1 i ∨ b 1 i)
theorem shelf_set {W : World} {g : Nat} {a0 a1 a2 a3 : Value} (h : W.heap[g]? = some (.cells #[a0, a1, a2, a3] 67 (0, 0))) (v0 v1 v2 v3 : Value) :
    (((W.cell? ⟨g, 0, none⟩ = some a0 ∧ W.frozen? ⟨g, 0, none⟩ = false) ∧ ((W.setCell ⟨g, 0, none⟩ v0).cell? ⟨g, 1, none⟩ = some a1 ∧ (W.setCell ⟨g, 0, none⟩ v0).frozen? ⟨g, 1, none⟩ = false)) ∧
    (((W.setCell ⟨g, 0, none⟩ v0).setCell ⟨g, 1, none⟩ v1).cell? ⟨g, 2, none⟩ = some a2 ∧ ((W.setCell ⟨g, 0, none⟩ v0).setCell ⟨g, 1, none⟩ v1).frozen? ⟨g, 2, none⟩ = false)) ∧
    ((((W.setCell ⟨g, 0, none⟩ v0).setCell ⟨g, 1, none⟩ v1).setCell ⟨g, 2, none⟩ v2).cell? ⟨g, 3, none⟩ = some a3 ∧ (((W.setCell ⟨g, 0, none⟩ v0).setCell ⟨g, 1, none⟩ v1).setCell ⟨g, 2, none⟩ v2).frozen? ⟨g, 3, none⟩ = false) ∧
    ((((W.setCell ⟨g, 0, none⟩ v0).setCell ⟨g, 1, none⟩ v1).setCell ⟨g, 2, none⟩ v2).setCell ⟨g, 3, none⟩ v3).heap[g]? = some (.cells #[v0, v1, v2, v3] 67 (0, 0)) := by
  have h1 : (W.setCell ⟨g, 0, none⟩ v0).heap[g]? = some (.cells #[v0, a1, a2, a3] 67 (0, 0)) := by simpa using blk_set h 0 v0
  have h2 : ((W.setCell ⟨g, 0, none⟩ v0).setCell ⟨g, 1, none⟩ v1).heap[g]? = some (.cells #[v0, v1, a2, a3] 67 (0, 0)) := by simpa using blk_set h1 1 v1
  have h3 : (((W.setCell ⟨g, 0, none⟩ v0).setCell ⟨g, 1, none⟩ v1).setCell ⟨g, 2, none⟩ v2).heap[g]? = some (.cells #[v0, v1, v2, a3] 67 (0, 0)) := by simpa using blk_set h2 2 v2
  have h4 : ((((W.setCell ⟨g, 0, none⟩ v0).setCell ⟨g, 1, none⟩ v1).setCell ⟨g, 2, none⟩ v2).setCell ⟨g, 3, none⟩ v3).heap[g]? = some (.cells #[v0, v1, v2, v3] 67 (0, 0)) := by simpa using blk_set h3 3 v3
  exact ⟨⟨⟨⟨(blk_cell h 0).trans rfl, blk_frozen h 0⟩, ⟨(blk_cell h1 1).trans rfl, blk_frozen h1 1⟩⟩, ⟨(blk_cell h2 2).trans rfl, blk_frozen h2 2⟩⟩, ⟨(blk_cell h3 3).trans rfl, blk_frozen h3 3⟩, h4⟩
theorem only_four (W : World) (g : Nat) (v0 v1 v2 v3 : Value) : Only (fun i => i = g) W ((((W.setCell ⟨g, 0, none⟩ v0).setCell ⟨g, 1, none⟩ v1).setCell ⟨g, 2, none⟩ v2).setCell ⟨g, 3, none⟩ v3) :=
  ((((Only.refl (fun i => i = g) W).setCell (p := ⟨g, 0, none⟩) (fun _ => rfl) v0).setCell (p := ⟨g, 1, none⟩) (fun _ => rfl) v1).setCell (p := ⟨g, 2, none⟩) (fun _ => rfl) v2).setCell (p := ⟨g, 3, none⟩) (fun _ => rfl) v3
def two {α : Type} (u v : α) (k : Nat) : α := if k = 0 then u else v
/-- the shelf as it begins -/
theorem shelf_begins {B B0 B1 : Nat} {w w0 w1 wr w' : World} {g : Nat} {x0 y0 x1 y1 : Option Addr} {s0 s1 : St} {a0 b0 a1 b1 : Nat → Prop} (hle : B ≤ w.heap.size)
    (hw0 : Below B w w0) (hw1 : Below B w w1) (h0 : Pair B0 w0 x0 y0 s0 s0 a0 b0 wr) (h1 : Pair B1 w1 x1 y1 s1 s1 a1 b1 wr) (e0 : B0 = w0.heap.size) (e1 : B1 = w1.heap.size) (hg : B ≤ g) (hg0 : g < B0) (hg1 : g < B1)
    (hap : ∀ i, a0 i ∨ b0 i → ¬ (a1 i ∨ b1 i)) (hO : Only (fun i => i = g) wr w')
    (hblk : w'.heap[g]? = some (.cells #[.pointer x0, .pointer x1, .pointer y0, .pointer y1] 67 (0, 0))) : ∃ st ok, OnShelf B w g st ok w' := by
  subst e0; subst e1
  have hb : Below B w wr := below_then hw0 (Nat.le_trans hle hw0.size) h0.below
  have k0 : Pair B w x0 y0 s0 s0 a0 b0 wr := ⟨h0.t, h0.r, fun i hi => ⟨Nat.le_trans hle (Nat.le_trans hw0.size (h0.own1 i hi).1), (h0.own1 i hi).2⟩, fun i hi => ⟨Nat.le_trans hle (Nat.le_trans hw0.size (h0.own2 i hi).1), (h0.own2 i hi).2⟩, h0.apart, hb⟩
  have k1 : Pair B w x1 y1 s1 s1 a1 b1 wr := ⟨h1.t, h1.r, fun i hi => ⟨Nat.le_trans hle (Nat.le_trans hw1.size (h1.own1 i hi).1), (h1.own1 i hi).2⟩, fun i hi => ⟨Nat.le_trans hle (Nat.le_trans hw1.size (h1.own2 i hi).1), (h1.own2 i hi).2⟩, h1.apart, hb⟩
  have n0 : ¬ a0 g ∧ ¬ b0 g := ⟨fun h => by have := (h0.own1 g h).1; omega, fun h => by have := (h0.own2 g h).1; omega⟩
  have n1 : ¬ a1 g ∧ ¬ b1 g := ⟨fun h => by have := (h1.own1 g h).1; omega, fun h => by have := (h1.own2 g h).1; omega⟩
  refine ⟨two s0 s1, _, two x0 x1, two y0 y1, two a0 a1, two b0 b1, ⟨hblk, ?_, ?_, hg, ?_⟩, fun i => Iff.rfl⟩
  · intro k hk
    have : k = 0 ∨ k = 1 := by omega
    rcases this with rfl | rfl
    · exact k0.other hle hO (fun i hi => by subst hi; exact ⟨hg, n0⟩)
    · exact k1.other hle hO (fun i hi => by subst hi; exact ⟨hg, n1⟩)
  · intro j k hj hk hjk i
    have ej : j = 0 ∨ j = 1 := by omega
    have ek : k = 0 ∨ k = 1 := by omega
    rcases ej with rfl | rfl <;> rcases ek with rfl | rfl
    · exact absurd rfl hjk
    · exact hap i
    · exact fun h h' => hap i h' h
    · exact absurd rfl hjk
  · intro k hk
    have : k = 0 ∨ k = 1 := by omega
    rcases this with rfl | rfl
    · exact n0
    · exact n1
set_option maxHeartbeats 4000000 in
set_option maxRecDepth 100000 in
theorem begins_calls (B : Nat) (w w0 : World) (g : Nat) (most other : Int) (hB : B ≤ w.heap.size) (hb : Below B w w0) (hg : B ≤ g) (hblk : w0.heap[g]? = some (.cells #[.pointer none, .pointer none, .pointer none, .pointer none] 67 (0, 0))) :
    Calls Try.prog 54 #[.pointer (some ⟨g, 0, none⟩), .int .i64 most, .int .i64 other] w0 fun e w' => e = .returned (.bool true) ∧ ∃ st ok, OnShelf B w g st ok w' := by
  have HBK := Aside0.mk hblk
  have HW := Aside0.mk hb
  clear hblk hb
  go_enter Try.func54, Try.ntmps54
  go_wp2_with fail
  refine (ptNew _ most).mono ?_; rintro e w1 ⟨x, rfl, hT1⟩
  have HT1 := Aside0.mk hT1
  clear hT1
  have hn1 := prNew w1 most
  generalize hm : newS most = r0 at *
  obtain ⟨e0, st0⟩ := r0
  go_wp2_with fail
  refine hn1.mono ?_; rintro e w2 ⟨y, rfl, hR1⟩
  have hP : ∃ ok1 ok2, Pair w0.heap.size w0 x y st0 st0 ok1 ok2 w2 := Pair.make HT1.out hR1
  obtain ⟨a0, b0, hP0⟩ := hP
  have HP0 := Aside0.mk hP0
  clear HT1 hR1 hP0 hn1
  go_wp2_with fail
  refine (ptNew _ other).mono ?_; rintro e w3 ⟨x1, rfl, hT2⟩
  have HT2 := Aside0.mk hT2
  clear hT2
  have hn2 := prNew w3 other
  generalize hm2 : newS other = r1 at *
  obtain ⟨e1, st1⟩ := r1
  go_wp2_with fail
  refine hn2.mono ?_; rintro e w4 ⟨y1, rfl, hR2⟩
  have hP : ∃ ok1 ok2, Pair w2.heap.size w2 x1 y1 st1 st1 ok1 ok2 w4 := Pair.make HT2.out hR2
  obtain ⟨a1, b1, hP1⟩ := hP
  have HP1 := Aside0.mk hP1
  clear HT2 hR2 hP1 hn2
  have f1 : (e0 != e0) = false := bne_self_eq_false _
  have f2 : (e1 != e1) = false := bne_self_eq_false _
  have f3 : (x.isNone != y.isNone) = false := by rw [HP0.out.nil]; exact bne_self_eq_false _
  have f4 : (x1.isNone != y1.isNone) = false := by rw [HP1.out.nil]; exact bne_self_eq_false _
  have f5 : (!(x.isNone == y.isNone)) = false := by rw [HP0.out.nil]; simp
  have f6 : (!(x1.isNone == y1.isNone)) = false := by rw [HP1.out.nil]; simp
  have f7 : x.isNone = y.isNone := HP0.out.nil
  have f8 : x1.isNone = y1.isNone := HP1.out.nil
  go_wp2_with (go_at_call 38; (with_reducible refine (kilnlaw6_num.calls _ _ _ rfl).mono ?_); rintro e w' ⟨rfl, ⟨nd, rfl⟩⟩)
  generalize hq : w4.drewN _ = wq
  have hBq : Aside0 (Below w4.heap.size w4 wq) := ⟨by rw [← hq]; exact pw_below_drewN (Below.refl _ _) _⟩
  have hsq : wq.heap.size = w4.heap.size := by rw [← hq]; rfl
  clear hq
  refine (idle_calls _ none (.inl rfl)).mono ?_; rintro e w' ⟨rfl, ⟨ndb, rfl⟩⟩
  go_wp2_with fail
  have hB5 : Below w4.heap.size w4 ((wq.drewN ndb).alloc (Obj.cells #[Value.int IntKind.i64 0, Value.slice none 0 0, Value.map none] 90)) := below_alloc (pw_below_drewN hBq.out _) _
  have hI : IdleAt ((wq.drewN ndb).alloc (Obj.cells #[Value.int IntKind.i64 0, Value.slice none 0 0, Value.map none] 90)) (some ⟨w4.heap.size, 0, none⟩) := by rw [← hsq]; exact .inr ⟨_, rfl, (blk_cell (blk_new (wq.drewN ndb) _) 2).trans rfl⟩
  refine (idle_calls _ _ hI).mono ?_; rintro e w' ⟨rfl, ⟨ndc, rfl⟩⟩
  generalize hq : (wq.drewN ndb).alloc _ = w5
  have HB5 : Aside0 (Below w4.heap.size w4 w5) := ⟨by rw [← hq]; exact hB5⟩
  clear hB5 hI hq
  have hg0 : w0.heap.size ≤ w5.heap.size := Nat.le_trans HP0.out.below.size (Nat.le_trans HP1.out.below.size HB5.out.size)
  have hblk5 : w5.heap[g]? = some (.cells #[.pointer none, .pointer none, .pointer none, .pointer none] 67 (0, 0)) := blk_below (blk_below (blk_below HBK.out HP0.out.below) HP1.out.below) HB5.out
  have HG := Aside0.mk hblk5
  cases st0 with
  | none =>
    obtain rfl : x = none := HP0.out.t
    obtain rfl : y = none := HP0.out.r
    clear hblk5
    go_wp2_with fail
    refine (ptNew _ 5).mono ?_; rintro e w6 ⟨x2, rfl, hT1⟩
    have HT1 := Aside0.mk hT1
    clear hT1
    have hn1 := prNew w6 5
    have e5 : newS 5 = (0, some (5, [])) := rfl
    rw [e5] at hn1 HT1
    rw [e5]
    clear e5
    go_wp2_with fail
    refine hn1.mono ?_; rintro e w7 ⟨y2, rfl, hR1⟩
    have hP : ∃ ok1 ok2, Pair w5.heap.size (w5.drewN ndc) x2 y2 (some (5, [])) (some (5, [])) ok1 ok2 w7 := Pair.make HT1.out hR1
    obtain ⟨a2, b2, hP2⟩ := hP
    have HP2 := Aside0.mk hP2
    clear HT1 hR1 hP2 hn1
    obtain ⟨gx, rfl, _⟩ := HP2.out.t
    obtain ⟨gy, rfl, _⟩ := HP2.out.r
    have hb57 : Below w4.heap.size w4 w7 := below_then (pw_below_drewN HB5.out _) HB5.out.size HP2.out.below
    have hblk7 := blk_below (HG.out) (below_weaken (w0 := w5) (pw_below_drewN (Below.refl _ _) ndc) (Nat.le_refl _) HP2.out.below)
    have hs7 := HP2.out.below.size
    have HS := shelf_set (W := w7) hblk7 (.pointer (some ⟨gx, 0, none⟩)) (.pointer x1) (.pointer (some ⟨gy, 0, none⟩)) (.pointer y1)
    have HSA := Aside0.mk HS.2.2
    obtain ⟨⟨⟨⟨c0, z0⟩, ⟨c1, z1⟩⟩, ⟨c2, z2⟩⟩, ⟨c3, z3⟩, _⟩ := HS
    clear hblk7
    go_wp2_with (go_at_call 38; (with_reducible refine (kilnlaw6_num.calls _ _ _ rfl).mono ?_); rintro e w' ⟨rfl, ⟨nd, rfl⟩⟩)
    go_ret
    have hb04 : Below w2.heap.size w2 w4 := HP1.out.below
    refine ⟨rfl, shelf_begins (B0 := w5.heap.size) (B1 := w2.heap.size) (w0 := w5.drewN ndc) (w1 := w2) (wr := w7) hB ?_ ?_ HP2.out ((HP1.out.step (Nat.le_refl _) HB5.out).step (Nat.le_refl _) (below_weaken (w0 := w5) (pw_below_drewN (Below.refl _ _) ndc) (Nat.le_refl _) HP2.out.below)) rfl rfl hg ?_ ?_ ?_ (by first | exact only_four _ _ _ _ _ _ | exact (only_four _ _ _ _ _ _).drewN _) HSA.out⟩
    · exact pw_below_drewN (below_then (below_then (below_then HW.out (Nat.le_trans hB HW.out.size) HP0.out.below) (Nat.le_trans hB (Nat.le_trans HW.out.size HP0.out.below.size)) hb04) (Nat.le_trans hB (Nat.le_trans HW.out.size (Nat.le_trans HP0.out.below.size hb04.size))) HB5.out) _
    · exact below_then HW.out (Nat.le_trans hB HW.out.size) HP0.out.below
    · exact Nat.lt_of_lt_of_le (blk_lt HBK.out) hg0
    · exact Nat.lt_of_lt_of_le (blk_lt HBK.out) HP0.out.below.size
    · intro i h h'
      have := HB5.out.size
      rcases h with h | h <;> rcases h' with h' | h'
      · have := (HP2.out.own1 i h).1; have := (HP1.out.own1 i h').2; omega
      · have := (HP2.out.own1 i h).1; have := (HP1.out.own2 i h').2; omega
      · have := (HP2.out.own2 i h).1; have := (HP1.out.own1 i h').2; omega
      · have := (HP2.out.own2 i h).1; have := (HP1.out.own2 i h').2; omega
  | some p =>
    obtain ⟨gx, rfl, _⟩ := HP0.out.t
    obtain ⟨gy, rfl, _⟩ := HP0.out.r
    have HS := shelf_set (W := w5.drewN ndc) hblk5 (.pointer (some ⟨gx, 0, none⟩)) (.pointer x1) (.pointer (some ⟨gy, 0, none⟩)) (.pointer y1)
    have HSA := Aside0.mk HS.2.2
    obtain ⟨⟨⟨⟨c0, z0⟩, ⟨c1, z1⟩⟩, ⟨c2, z2⟩⟩, ⟨c3, z3⟩, _⟩ := HS
    clear hblk5
    go_wp2_with (go_at_call 38; (with_reducible refine (kilnlaw6_num.calls _ _ _ rfl).mono ?_); rintro e w' ⟨rfl, ⟨nd, rfl⟩⟩)
    go_ret
    have hb04 : Below w2.heap.size w2 w4 := HP1.out.below
    refine ⟨rfl, shelf_begins (B0 := w0.heap.size) (B1 := w2.heap.size) (w0 := w0) (w1 := w2) (wr := w5.drewN ndc) hB HW.out ?_ (((HP0.out.step (Nat.le_refl _) hb04).step (Nat.le_refl _) HB5.out).drewN _) ((HP1.out.step (Nat.le_refl _) HB5.out).drewN _) rfl rfl hg ?_ ?_ ?_ (by first | exact only_four _ _ _ _ _ _ | exact (only_four _ _ _ _ _ _).drewN _) HSA.out⟩
    · exact below_then HW.out (Nat.le_trans hB HW.out.size) HP0.out.below
    · exact blk_lt HBK.out
    · exact Nat.lt_of_lt_of_le (blk_lt HBK.out) HP0.out.below.size
    · intro i h h'
      rcases h with h | h <;> rcases h' with h' | h'
      · have := (HP0.out.own1 i h).2; have := (HP1.out.own1 i h').1; omega
      · have := (HP0.out.own1 i h).2; have := (HP1.out.own2 i h').1; omega
      · have := (HP0.out.own2 i h).2; have := (HP1.out.own1 i h').1; omega
      · have := (HP0.out.own2 i h).2; have := (HP1.out.own2 i h').1; omega
end Go.Proofs.Ytcnjdgafemgaeaa.Sym
