/- Lists of tokens that the law writes over: the plain facts. Conditions: those that each theorem states. -/
import Derived.Test.YtjibdaigclgmhaaGreatDoorLexJK
namespace Go.Proofs.YtjibdaigclgmhaaGreatDoor.LexW
open Go.RowKit Go.Maps Go.Proofs.YtjibdaigclgmhaaGreatDoor.Lex Go.Proofs.YtjibdaigclgmhaaGreatDoor.PLexPrints Go.Proofs.YtjibdaigclgmhaaGreatDoorW.PrintWords Go.Proofs.YtjibdaigclgmhaaGreatDoorW.PrintLast Go.Proofs.YtjibdaigclgmhaaGreatDoorW.PrintMore Go.Proofs.YtjibdaigclgmhaaGreatDoor.Facts
attribute [local go_sem] max2_int min2_int max_two min_two max_three min_three max_four min_four
set_option linter.unusedVariables false
set_option linter.unusedSimpArgs false
/-- a row of tokens' cells at the head of a block -/
def Own42 (w : World) (g : Nat) (xs : List S28) : Prop := ∃ cur, w.heap[g]? = some (.cells cur 28 (0, 0)) ∧ xs.length ≤ 1099511627776 ∧ ∀ j x, xs[j]? = some x → cur[j * 4]? = some (.int .i64 x.f0) ∧ cur[j * 4 + 1]? = some (.string x.f1) ∧ cur[j * 4 + 2]? = some (.int .i64 x.f2) ∧ cur[j * 4 + 3]? = some (.int .i64 x.f3)
theorem Own42.C {w : World} {g : Nat} {xs : List S28} (h : Own42 w g xs) : Kd.C k28 w (some ⟨g, 0, none⟩) xs.length xs := by
  obtain ⟨cur, hb, hl, hc⟩ := h
  refine ⟨rfl, by omega, fun _ => ⟨_, rfl, fun j p hj => ⟨_, rfl, k28_mk _ p, fun i u hu => ?_⟩⟩⟩
  obtain ⟨c0, c1, c2, c3⟩ := hc j p hj
  have hi : i < 4 := by have := (List.getElem?_eq_some_iff.1 hu).1; simpa using this
  have hadd : (⟨g, 0, none⟩ : Addr).add (j * k28.sz + i) = ⟨g, j * 4 + i, none⟩ := by
    show (⟨g, 0, none⟩ : Addr).add (j * 4 + i) = _
    unfold Addr.add
    split
    · rename_i e; rw [e]
    · simp
  rw [hadd, blk_cell hb]
  rcases (show i = 0 ∨ i = 1 ∨ i = 2 ∨ i = 3 by omega) with rfl | rfl | rfl | rfl
  · simp at hu; subst hu; exact c0
  · simp at hu; subst hu; exact c1
  · simp at hu; subst hu; exact c2
  · simp at hu; subst hu; exact c3
theorem Own42.move {w w' : World} {g : Nat} {xs : List S28} (h : Own42 w g xs) (hk : w'.heap[g]? = w.heap[g]?) : Own42 w' g xs := by
  obtain ⟨cur, hb, hl, hc⟩ := h
  exact ⟨cur, by rw [hk]; exact hb, hl, hc⟩
theorem Own42.lt {w : World} {g : Nat} {xs : List S28} (h : Own42 w g xs) : g < w.heap.size := by
  obtain ⟨cur, hb, _⟩ := h
  exact blk_lt hb
theorem Own42.below {w w' : World} {g : Nat} {xs : List S28} (h : Own42 w g xs) (hb : Below w.heap.size w w') : Own42 w' g xs := h.move (hb.block g h.lt)
/-- an element written over -/
theorem Own42.put {w : World} {g : Nat} {xs : List S28} (h : Own42 w g xs) (i : Nat) (hi : i < xs.length) (x : S28) :
    Own42 ((((w.setCell ⟨g, i * 4, none⟩ (.int .i64 x.f0)).setCell ⟨g, i * 4 + 1, none⟩ (.string x.f1)).setCell ⟨g, i * 4 + 2, none⟩ (.int .i64 x.f2)).setCell ⟨g, i * 4 + 3, none⟩ (.int .i64 x.f3)) g (xs.set i x) := by
  obtain ⟨cur, hb, hl, hc⟩ := h
  refine ⟨_, blk_set (blk_set (blk_set (blk_set hb _ _) _ _) _ _) _ _, by rw [List.length_set]; exact hl, fun j y hj => ?_⟩
  have hsz : i * 4 + 3 < cur.size := by
    have := (hc i xs[i] (List.getElem?_eq_getElem hi)).2.2.2
    exact (Array.getElem?_eq_some_iff.1 this).1
  by_cases hij : i = j
  · subst hij
    rw [List.getElem?_set_self hi] at hj
    injection hj with hj
    subst hj
    refine ⟨?_, ?_, ?_, ?_⟩ <;> simp [Array.getElem?_setIfInBounds] <;> omega
  · rw [List.getElem?_set_ne hij] at hj
    obtain ⟨c0, c1, c2, c3⟩ := hc j y hj
    refine ⟨?_, ?_, ?_, ?_⟩
    · rw [Array.getElem?_setIfInBounds_ne (by omega), Array.getElem?_setIfInBounds_ne (by omega), Array.getElem?_setIfInBounds_ne (by omega), Array.getElem?_setIfInBounds_ne (by omega)]; exact c0
    · rw [Array.getElem?_setIfInBounds_ne (by omega), Array.getElem?_setIfInBounds_ne (by omega), Array.getElem?_setIfInBounds_ne (by omega), Array.getElem?_setIfInBounds_ne (by omega)]; exact c1
    · rw [Array.getElem?_setIfInBounds_ne (by omega), Array.getElem?_setIfInBounds_ne (by omega), Array.getElem?_setIfInBounds_ne (by omega), Array.getElem?_setIfInBounds_ne (by omega)]; exact c2
    · rw [Array.getElem?_setIfInBounds_ne (by omega), Array.getElem?_setIfInBounds_ne (by omega), Array.getElem?_setIfInBounds_ne (by omega), Array.getElem?_setIfInBounds_ne (by omega)]; exact c3
/-- nothing but block g is written -/
def Only (g : Nat) (w w' : World) : Prop := w'.os = w.os ∧ w'.tape = w.tape ∧ w'.output = w.output ∧ w.heap.size ≤ w'.heap.size ∧ ∀ k, k ≠ g → k < w.heap.size → w'.heap[k]? = w.heap[k]?
theorem Only.refl (g : Nat) (w : World) : Only g w w := ⟨rfl, rfl, rfl, Nat.le_refl _, fun _ _ _ => rfl⟩
theorem Only.set {g : Nat} {w w' : World} (h : Only g w w') (j : Nat) (u : Value) : Only g w (w'.setCell ⟨g, j, none⟩ u) :=
  ⟨h.1, h.2.1, h.2.2.1, by rw [show (w'.setCell ⟨g, j, none⟩ u).heap.size = w'.heap.size by simp [World.setCell]]; exact h.2.2.2.1, fun k hk hlt => by rw [Below.heap_setCell w' _ u k (show k ≠ g from hk)]; exact h.2.2.2.2 k hk hlt⟩
theorem Only.drewN {g : Nat} {w w' : World} (h : Only g w w') (n : Nat) : Only g w (w'.drewN n) := h
theorem Only.below {g B : Nat} {w w' : World} (h : Only g w w') (hB : B ≤ g) (hs : B ≤ w.heap.size) : Below B w w' := ⟨h.1, h.2.1, h.2.2.1, h.2.2.2.1, fun k hk => h.2.2.2.2 k (by omega) (by omega)⟩
def mk0 (a : Int) : S28 := ⟨a, ⟨#[]⟩, 0, 0⟩
/-- a list that lies in one of the blocks lo .. hi, or is nil -/
def Lst (w : World) (lo hi : Nat) (A : Option Addr) (xs : List S28) : Prop := (A = none ∧ xs = []) ∨ ∃ g, lo ≤ g ∧ g < hi ∧ A = some ⟨g, 0, none⟩ ∧ Own42 w g xs
theorem Lst.C {w : World} {lo hi : Nat} {A : Option Addr} {xs : List S28} (h : Lst w lo hi A xs) : Kd.C k28 w A xs.length xs := by
  rcases h with ⟨rfl, rfl⟩ | ⟨g, _, _, rfl, h⟩
  · exact ⟨rfl, by simp, fun h => by simp at h⟩
  · exact h.C
theorem Lst.move {w w' : World} {lo hi : Nat} {A : Option Addr} {xs : List S28} (h : Lst w lo hi A xs) (hk : ∀ k, lo ≤ k → k < hi → k < w.heap.size → w'.heap[k]? = w.heap[k]?) : Lst w' lo hi A xs := by
  rcases h with ⟨rfl, rfl⟩ | ⟨g, h1, h2, rfl, h⟩
  · exact .inl ⟨rfl, rfl⟩
  · exact .inr ⟨g, h1, h2, rfl, h.move (hk g h1 h2 h.lt)⟩
theorem Lst.below {w w' : World} {lo hi : Nat} {A : Option Addr} {xs : List S28} (h : Lst w lo hi A xs) (hb : Below w.heap.size w w') : Lst w' lo hi A xs := h.move (fun k _ _ hk => hb.block k hk)
/-- nothing but the blocks lo .. hi is written -/
def Out (lo hi : Nat) (w w' : World) : Prop := w'.os = w.os ∧ w'.tape = w.tape ∧ w'.output = w.output ∧ w.heap.size ≤ w'.heap.size ∧ ∀ k, k < w.heap.size → ¬ (lo ≤ k ∧ k < hi) → w'.heap[k]? = w.heap[k]?
theorem Lst.out {w w' : World} {lo hi lo' hi' : Nat} {A : Option Addr} {xs : List S28} (h : Lst w lo hi A xs) (ho : Out lo' hi' w w') (hd : hi ≤ lo' ∨ hi' ≤ lo) : Lst w' lo hi A xs := h.move (fun k h1 h2 hk => ho.2.2.2.2 k hk (by omega))
theorem Out.blk {w w' : World} {lo hi g : Nat} {o : Obj} (ho : Out lo hi w w') (h : w.heap[g]? = some o) (hg : g < lo ∨ hi ≤ g) : w'.heap[g]? = some o := (ho.2.2.2.2 g (blk_lt h) (by omega)).trans h
theorem Out.below {w w' : World} {lo hi B : Nat} (ho : Out lo hi w w') (h1 : B ≤ lo) (h2 : B ≤ w.heap.size) : Below B w w' := ⟨ho.1, ho.2.1, ho.2.2.1, ho.2.2.2.1, fun k hk => ho.2.2.2.2 k (by omega) (by omega)⟩
theorem Lst_of_R {w : World} {base n c : Nat} {ok : Nat → Prop} {A : Option Addr} {xs : List S28} (h : Kd.R k28 28 w base ok (.slice A n c) xs) (hl : xs.length ≤ 1099511627776) : Lst w base w.heap.size A xs := by
  obtain ⟨_, inner, hown, hreps⟩ := h
  obtain ⟨h1, h2 | ⟨g, cap, cur, hv, hg, hh, h3, h4, h5, h6⟩⟩ := hown
  · obtain ⟨hv, hn⟩ := h2
    injection hv with hA _ _
    exact .inl ⟨hA, List.length_eq_zero_iff.1 hn⟩
  · injection hv with hA _ _
    refine .inr ⟨g, hg, blk_lt hh, hA, cur, hh, hl, fun j x hj => ?_⟩
    have hk := k28_openM (hreps.2 j x hj)
    have hjl : j < xs.length := (List.getElem?_eq_some_iff.1 hj).1
    have hc : ∀ i, i < 4 → cur[j * 4 + i]? = ([Value.int .i64 x.f0, .string x.f1, .int .i64 x.f2, .int .i64 x.f3])[i]? := by
      intro i hi
      rw [← hk]
      show _ = ((inner.drop (j * 4)).take 4)[i]?
      rw [List.getElem?_take, if_pos hi, List.getElem?_drop, ← h6]
      have : j * 4 + i < xs.length * k28.sz := by show _ < xs.length * 4; omega
      rw [List.getElem?_take, if_pos this]
      simp
    exact ⟨hc 0 (by omega), hc 1 (by omega), hc 2 (by omega), hc 3 (by omega)⟩
end Go.Proofs.YtjibdaigclgmhaaGreatDoor.LexW
