/- Contracts of the program's package symbol (New, Add, Find, Text, Count, All, Back) over one predicate: a table in memory that holds a list of texts, each once. Conditions: none beyond the predicate. -/
import Derived.Test.YtcnjdgafemgaeaaPSymbolFirstx1
import Derived.Maps.OwnSet
import Derived.WalkSpells
import Derived.StillTailTactics
import Derived.IntWalk
import Derived.Test.YtcnjdgafemgaeaaShelf
namespace Go.Proofs.Ytcnjdgafemgaeaa.Sym
open Go.RowKit Go.Maps Go.WideMaps Go.Proofs.Ytcnjdgafemgaeaa.PSymbolFirst Go.Proofs.YtcnjdgafemgaeaaW.PrintWords Go.Proofs.YtcnjdgafemgaeaaW.PrintLast Go.Proofs.YtcnjdgafemgaeaaW.PrintMore
attribute [local go_sem] max2_int min2_int max_two min_two max_three min_three max_four min_four
set_option linter.unusedVariables false
set_option linter.unusedSimpArgs false

theorem law9 : Keyed Try.prog 9 := string_keyed Try.underlying9
theorem zero3 (w : World) : (zeroValue 3).run Try.prog w = .ok (.int .i64 0) w := by kernel_rfl

/-- a text's key -/
def key (s : ByteArray) : Lit := .string s.data.toList
/-- a map that numbers the texts of a list by their places -/
def MapIs (D : DataW Unit) (ss : List ByteArray) : Prop :=
  ∀ s : ByteArray, (Maps.has D (key s) = true ↔ s ∈ ss) ∧ ∀ i : Nat, ss[i]? = some s → D.atKey (key s) (.lit (.int .i64 0)) = .lit (.int .i64 (i : Int))
/-- the texts that may be symbols, each once, no more than may be -/
structure Good (m : Nat) (ss : List ByteArray) : Prop where
  nodup : ss.Nodup
  fits : ∀ s ∈ ss, 1 ≤ s.size ∧ s.size ≤ 96
  le : ss.length ≤ m
  cap : m ≤ 4096
/-- a table in memory: its struct, its list, its map -/
structure IsTable (w : World) (ok : Nat → Prop) (g : Nat) (most : Nat) (ss : List ByteArray) : Prop where
  out : ∃ v mb D, w.heap[g]? = some (.cells #[.int .i64 (most : Int), v, .map (some mb)] 90 (0, 0)) ∧ Kd.R Kd.string 9 w 0 ok v ss ∧
    w.ownsMap Try.prog 9 (plainElem Try.prog 3) mb ss.length D ∧ (MapIs D ss ∧ Maps.size D = ss.length) ∧ ok g ∧ ok mb
  lt : ∀ i, ok i → i < w.heap.size
  good : Good most ss


theorem none_no (w : World) (g mb : Nat) (v : Value) (m : Nat) (h : w.heap[g]? = some (.cells #[.int .i64 (m : Int), v, .map (some mb)] 90 (0, 0))) :
    Calls Try.prog 67 #[.pointer (some ⟨g, 0, none⟩)] w fun e w' => e = .returned (.bool false) ∧ Drawn0 w w' := by
  have c2 := (blk_cell h 2).trans (show _ = some (.map (some mb)) from rfl)
  have hm := fun (W : World) (r : Option Nat) => run_eql_map_nil (P := Try.prog) W 88 9 3 r Try.underlying88
  go_enter Try.func67, Try.ntmps67
  go_wp2
  go_ret
  exact ⟨by first | rfl | (simp; done) | (simp [*]; done), by repeat (first | exact Drawn0.refl _ | apply Drawn0.step)⟩
theorem none_nil (w : World) :
    Calls Try.prog 67 #[.pointer none] w fun e w' => e = .returned (.bool true) ∧ Drawn0 w w' := by
  go_enter Try.func67, Try.ntmps67
  go_wp2
  go_ret
  exact ⟨by first | rfl | (simp; done) | (simp [*]; done), by repeat (first | exact Drawn0.refl _ | apply Drawn0.step)⟩

/-- a contract that only reads -/
theorem count_calls (w : World) (ok : Nat → Prop) (g m : Nat) (ss : List ByteArray) (T : IsTable w ok g m ss) :
    Calls Try.prog 45 #[.pointer (some ⟨g, 0, none⟩)] w fun e w' => e = .returned (.int .i64 ss.length) ∧ Drawn0 w w' := by
  obtain ⟨v, mb, D, h, hR, hM, hD, hg, hmb⟩ := T.out
  obtain ⟨A, c, rfl⟩ := Kd.R_slice hR
  have c0 := (blk_cell h 0).trans (show _ = some (.int .i64 (m : Int)) from rfl)
  have c1 := (blk_cell h 1).trans (show _ = some (.slice A ss.length c) from rfl)
  have H := Aside0.mk h
  clear h
  go_enter Try.func45, Try.ntmps45
  go_wp2_with fail
  refine (none_no _ g mb _ m (by exact H.out)).mono ?_; rintro e w' ⟨rfl, ⟨nd, rfl⟩⟩
  go_wp2
  go_ret
  exact ⟨by first | rfl | (simp; done) | (simp [*]; done), by repeat (first | exact Drawn0.refl _ | apply Drawn0.step)⟩
theorem text_calls (w : World) (ok : Nat → Prop) (g m : Nat) (ss : List ByteArray) (n : Int) (T : IsTable w ok g m ss) :
    Calls Try.prog 51 #[.pointer (some ⟨g, 0, none⟩), .int .i64 n] w fun e w' => e = .returned (if 0 ≤ n ∧ n < ss.length then .tuple #[.string (rdOf ByteArray.empty ss n), .int .i64 0] else .tuple #[.string ByteArray.empty, .int .i64 61]) ∧ Drawn0 w w' := by
  obtain ⟨v, mb, D, h, hR, hM, hD, hg, hmb⟩ := T.out
  obtain ⟨A, c, rfl, _, hC⟩ := Kd.R_reads hR
  have c1 := (blk_cell h 1).trans (show _ = some (.slice A ss.length c) from rfl)
  have H := Aside0.mk h
  have hl : ss.length ≤ 4096 := by have := T.good.le; have := T.good.cap; omega
  clear h
  by_cases h0 : n < 0
  · rw [if_neg (by omega)]
    have b0 : decide (n < 0) = true := decide_eq_true h0
    go_enter Try.func51, Try.ntmps51
    go_wp2_with fail
    refine (none_no _ g mb _ m (by exact H.out)).mono ?_; rintro e w' ⟨rfl, ⟨nd, rfl⟩⟩
    go_wp2
    go_ret2
    exact ⟨by first | rfl | (simp; done) | (simp [*]; done), by repeat (first | exact Drawn0.refl _ | apply Drawn0.step)⟩
  · have b0 : decide (n < 0) = false := decide_eq_false h0
    by_cases h1 : (ss.length : Int) ≤ n
    · rw [if_neg (by omega)]
      have b1 : decide ((ss.length : Int) ≤ n) = true := decide_eq_true h1
      go_enter Try.func51, Try.ntmps51
      go_wp2_with fail
      refine (none_no _ g mb _ m (by exact H.out)).mono ?_; rintro e w' ⟨rfl, ⟨nd, rfl⟩⟩
      go_wp2
      go_ret2
      exact ⟨by first | rfl | (simp; done) | (simp [*]; done), by repeat (first | exact Drawn0.refl _ | apply Drawn0.step)⟩
    · rw [if_pos (by omega)]
      have b1 : decide ((ss.length : Int) ≤ n) = false := decide_eq_false h1
      obtain ⟨ad, rfl, hcell⟩ := Kd.at_string hC n (by omega) (by omega)
      have h0' : 0 ≤ n := by omega
      have h1' : n < (ss.length : Int) := by omega
      go_enter Try.func51, Try.ntmps51
      go_wp2_with fail
      refine (none_no _ g mb _ m (by exact H.out)).mono ?_; rintro e w' ⟨rfl, ⟨nd, rfl⟩⟩
      go_wp2
      go_ret2
      exact ⟨by first | rfl | (simp; done) | (simp [*]; done), by repeat (first | exact Drawn0.refl _ | apply Drawn0.step)⟩
/-- what looking a text up tells -/
def Found (ss : List ByteArray) (s : ByteArray) (n : Int) (b : Bool) : Prop := (∃ i : Nat, ss[i]? = some s ∧ n = (i : Int) ∧ b = true) ∨ (s ∉ ss ∧ n = 0 ∧ b = false)
theorem found_of {D : DataW Unit} {ss : List ByteArray} (hD : MapIs D ss) (s : ByteArray) (c : Int) (hat : D.atKey (key s) (.lit (.int .i64 0)) = .lit (.int .i64 c)) : Found ss s c (Maps.has D (key s)) := by
  obtain ⟨h1, h2⟩ := hD s
  by_cases h : s ∈ ss
  · obtain ⟨i, hi⟩ := List.mem_iff_getElem?.1 h
    have := h2 i hi
    rw [hat] at this
    refine .inl ⟨i, hi, ?_, h1.2 h⟩
    injection this with this; injection this
  · have hf : Maps.has D (key s) = false := by
      cases hb : Maps.has D (key s)
      · rfl
      · exact absurd (h1.1 hb) h
    have := atKey_of_not_has hf (.lit (.int .i64 0))
    rw [hat] at this
    refine .inr ⟨h, ?_, hf⟩
    injection this with this; injection this
theorem find_calls (w : World) (ok : Nat → Prop) (g m : Nat) (ss : List ByteArray) (s : ByteArray) (hs : s.size ≤ maxLen) (T : IsTable w ok g m ss) :
    Calls Try.prog 50 #[.pointer (some ⟨g, 0, none⟩), .string s] w fun e w' => ∃ n b, Found ss s n b ∧ e = .returned (.tuple #[.int .i64 n, .bool b]) ∧ Drawn0 w w' := by
  obtain ⟨v, mb, D, h, hR, hM, hD, hg, hmb⟩ := T.out
  have c2 := (blk_cell h 2).trans (show _ = some (.map (some mb)) from rfl)
  have H := Aside0.mk h
  have HM := Aside0.mk hM
  have HD := Aside0.mk hD
  have hkey : keyOf Try.prog 9 (.string s) = some (key s) := keyOf_string_mk Try.underlying9 hs
  clear h hM hD
  go_enter Try.func50, Try.ntmps50
  go_wp2_with fail
  refine (none_no _ g mb _ m (by exact H.out)).mono ?_; rintro e w' ⟨rfl, ⟨nd, rfl⟩⟩
  go_wp2_with (first
    | (at_lookup; refine wpList_lookup_own_ok_int _ rfl _ _ 88 rfl 9 3 .i64 law9 Try.underlying88 Try.underlying3 (zero3 _) mb ss.length D rfl (by exact HM.out) _ _ rfl hkey ?_; intro c hat hwc; have HF := Aside0.mk (found_of HD.out.1 s c hat); clear hat)
    | go_in)
  go_ret2
  exact ⟨_, _, HF.out, by first | rfl | (simp; done) | (simp [*]; done), by repeat (first | exact Drawn0.refl _ | apply Drawn0.step)⟩

/-- only blocks of a kind have turned, and what is new -/
structure Only (ok : Nat → Prop) (w w' : World) : Prop where
  os : w'.os = w.os
  tape : w'.tape = w.tape
  output : w'.output = w.output
  size : w.heap.size ≤ w'.heap.size
  block : ∀ i, i < w.heap.size → ¬ ok i → w'.heap[i]? = w.heap[i]?
theorem Only.refl (ok : Nat → Prop) (w : World) : Only ok w w := ⟨rfl, rfl, rfl, Nat.le_refl _, fun _ _ _ => rfl⟩
theorem Only.drewN {ok : Nat → Prop} {w w' : World} (h : Only ok w w') (n : Nat) : Only ok w (w'.drewN n) := ⟨h.os, h.tape, h.output, h.size, h.block⟩
theorem Only.alloc {ok : Nat → Prop} {w w' : World} (h : Only ok w w') (o : Obj) : Only ok w (w'.alloc o) :=
  ⟨h.os, h.tape, h.output, Nat.le_trans h.size (by simp), fun i hi hn => (Below.heap_alloc w' o i (Nat.lt_of_lt_of_le hi h.size)).trans (h.block i hi hn)⟩
theorem Only.grown {ok : Nat → Prop} {w w1 w2 : World} (h : Only ok w w1) {row : Option Nat} (hg : w1.grownBy w2 row) (hr : ∀ k, row = some k → k < w.heap.size → ok k) : Only ok w w2 :=
  ⟨hg.os.trans h.os, hg.tape.trans h.tape, hg.output.trans h.output, Nat.le_trans h.size hg.size, fun i hi hn => (hg.block i (Nat.lt_of_lt_of_le hi h.size) (fun e => hn (hr i e.symm hi))).trans (h.block i hi hn)⟩
theorem Only.below {ok : Nat → Prop} {w w1 w2 : World} (h : Only ok w w1) (hb : Below w1.heap.size w1 w2) : Only ok w w2 := h.grown (grown_of_below hb none) (fun _ e => by cases e)
theorem Only.setCell {ok : Nat → Prop} {w w1 : World} (h : Only ok w w1) {p : Addr} (hp : p.block < w.heap.size → ok p.block) (u : Value) : Only ok w (w1.setCell p u) :=
  ⟨h.os, h.tape, h.output, by simpa [World.setCell] using h.size, fun i hi hn => (Below.heap_setCell w1 p u i (by rintro rfl; exact hn (hp hi))).trans (h.block i hi hn)⟩
theorem Only.trans {ok ok' : Nat → Prop} {w w1 w2 : World} (h : Only ok w w1) (k : Only ok' w1 w2) (hk : ∀ i, i < w.heap.size → ok' i → ok i) : Only ok w w2 :=
  ⟨k.os.trans h.os, k.tape.trans h.tape, k.output.trans h.output, Nat.le_trans h.size k.size, fun i hi hn => (k.block i (Nat.lt_of_lt_of_le hi h.size) (fun e => hn (hk i hi e))).trans (h.block i hi hn)⟩
theorem Only.isBelow {ok : Nat → Prop} {w w' : World} (h : Only ok w w') {B : Nat} (hB : B ≤ w.heap.size) (hk : ∀ i, ok i → B ≤ i) : Below B w w' :=
  ⟨h.os, h.tape, h.output, h.size, fun i hi => h.block i (Nat.lt_of_lt_of_le hi hB) (fun e => by have := hk i e; omega)⟩

theorem own_tight {w : World} {b n : Nat} {D : DataW Unit} (h : w.ownsMap Try.prog 9 (plainElem Try.prog 3) b n D) : w.ownsMap Try.prog 9 (plainElem Try.prog 3) b (Maps.size D) D := by
  obtain ⟨es, clock, h1, h2, h3, h4⟩ := h
  refine ⟨es, clock, h1, h2, ?_, h4⟩
  rw [h4, size_eq, length_sorted]; simp
theorem map_ne {w : World} {b n g t : Nat} {D : DataW Unit} {cs : Array Value} (h : w.ownsMap Try.prog 9 (plainElem Try.prog 3) b n D) (hg : w.heap[g]? = some (.cells cs t (0, 0))) : b ≠ g := by
  rintro rfl
  obtain ⟨es, clock, h1, _⟩ := h
  rw [hg] at h1; cases h1
theorem map_away {w : World} {b n base : Nat} {D : DataW Unit} {ok : Nat → Prop} {v : Value} {xs : List ByteArray} (h : w.ownsMap Try.prog 9 (plainElem Try.prog 3) b n D) (hR : Kd.R Kd.string 9 w base ok v xs) : some b ≠ v.ownBlock := by
  intro e
  obtain ⟨inner, ho⟩ := Kd.R_own hR
  obtain ⟨cells, hc⟩ := own_typed ho b e.symm
  exact map_ne h hc rfl
/-- a table kept where its blocks are -/
theorem IsTable.move {w w' : World} {ok : Nat → Prop} {g m : Nat} {ss : List ByteArray} (T : IsTable w ok g m ss) (hs : w.heap.size ≤ w'.heap.size) (hk : ∀ i, ok i → w'.heap[i]? = w.heap[i]?) : IsTable w' ok g m ss := by
  obtain ⟨v, mb, D, h, hR, hM, hD, hg, hmb⟩ := T.out
  refine ⟨⟨v, mb, D, (hk g hg).trans h, Kd.R_move hR hk, ?_, hD, hg, hmb⟩, fun i hi => Nat.lt_of_lt_of_le (T.lt i hi) hs, T.good⟩
  obtain ⟨es, clock, h1, h2⟩ := hM
  exact ⟨es, clock, (hk mb hmb).trans h1, h2⟩
theorem IsTable.keep {w w' : World} {ok ok' : Nat → Prop} {g m : Nat} {ss : List ByteArray} (T : IsTable w ok g m ss) (h : Only ok' w w') (hd : ∀ i, ok i → ¬ ok' i) : IsTable w' ok g m ss :=
  T.move h.size fun i hi => h.block i (T.lt i hi) (hd i hi)
theorem IsTable.below {w w' : World} {ok : Nat → Prop} {g m : Nat} {ss : List ByteArray} (T : IsTable w ok g m ss) (h : Below w.heap.size w w') : IsTable w' ok g m ss :=
  T.move h.size fun i hi => h.block i (T.lt i hi)
theorem IsTable.drewN {w : World} {ok : Nat → Prop} {g m : Nat} {ss : List ByteArray} (T : IsTable w ok g m ss) (n : Nat) : IsTable (w.drewN n) ok g m ss :=
  T.move (Nat.le_refl _) fun _ _ => rfl
/-- a text more, numbered by the next place -/
theorem mapIs_put {D : DataW Unit} {ss : List ByteArray} {s : ByteArray} (hm : IsMap D) (h : MapIs D ss) (hs : s ∉ ss) (hk : WideAt.IsKeyLit (key s)) : MapIs (D.put (key s) (.lit (.int .i64 (ss.length : Int)))) (ss ++ [s]) := by
  intro t
  by_cases e : t = s
  · subst e
    refine ⟨by rw [has_put_same hm hk]; simp, fun i hi => ?_⟩
    rw [atKey_put_same hm hk]
    have hlt := (List.getElem?_eq_some_iff.1 hi).1
    by_cases hl : i < ss.length
    · rw [List.getElem?_append_left hl] at hi
      exact absurd (List.mem_of_getElem? hi) hs
    · simp at hlt; congr 2; omega
  · have hne : key t ≠ key s := fun h => e (by
      unfold key at h
      injection h with h
      exact ByteArray.ext (Array.ext' h))
    obtain ⟨h1, h2⟩ := h t
    refine ⟨by rw [has_put_other hne, h1]; simp [e], fun i hi => ?_⟩
    rw [atKey_put_other hne]
    have hlt := (List.getElem?_eq_some_iff.1 hi).1
    by_cases hl : i < ss.length
    · rw [List.getElem?_append_left hl] at hi; exact h2 i hi
    · simp at hlt
      obtain rfl : i = ss.length := by omega
      simp at hi; exact absurd hi.symm e

/-- what an append onto the table's list leaves of the table -/
theorem after_append {w w1 : World} {g mb n nd : Nat} {cs : Array Value} {D : DataW Unit} {ok : Nat → Prop} {v : Value} {ss : List ByteArray} (h : w.heap[g]? = some (.cells cs 90 (0, 0))) (hM : w.ownsMap Try.prog 9 (plainElem Try.prog 3) mb n D) (hR : Kd.R Kd.string 9 w 0 ok v ss)
    (hg : (w.drewN nd).grownBy w1 v.ownBlock) : w1.heap[g]? = some (.cells cs 90 (0, 0)) ∧ w1.ownsMap Try.prog 9 (plainElem Try.prog 3) mb n D :=
  ⟨blk_grown (w := w.drewN nd) h hg (Kd.R_ne hR h (by decide)), World.ownsMap.kept (w := w.drewN nd) hM hg (map_away hM hR)⟩
theorem info9 : (Try.prog.info? 9).map (fun i => (i.zero, i.size, i.bytes)) = some (some (.string ⟨#[]⟩), 1, 16) := by kernel_rfl
theorem keyLit (s : ByteArray) : WideAt.IsKeyLit (key s) := by unfold key; first | exact trivial | constructor | simp [WideAt.IsKeyLit]
/-- what adding a text comes to: its number, the error's number, the texts behind it -/
inductive AddIs (m : Nat) (ss : List ByteArray) (s : ByteArray) : Int → Int → List ByteArray → Prop
  | bad : ¬ (1 ≤ s.size ∧ s.size ≤ 96) → AddIs m ss s 0 61 ss
  | there : (1 ≤ s.size ∧ s.size ≤ 96) → (i : Nat) → ss[i]? = some s → AddIs m ss s (i : Int) 0 ss
  | full : (1 ≤ s.size ∧ s.size ≤ 96) → s ∉ ss → m ≤ ss.length → AddIs m ss s 0 60 ss
  | new : (1 ≤ s.size ∧ s.size ≤ 96) → s ∉ ss → ss.length < m → AddIs m ss s (ss.length : Int) 0 (ss ++ [s])
/-- a table behind a call that may have written it -/
def Turned (w : World) (ok : Nat → Prop) (g m : Nat) (ss' : List ByteArray) (w' : World) : Prop :=
  ∃ ok', IsTable w' ok' g m ss' ∧ (∀ i, ok' i → ok i ∨ w.heap.size ≤ i) ∧ Only ok w w'
theorem nodup_snoc {α : Type} {l : List α} {x : α} (h : l.Nodup) (hx : x ∉ l) : (l ++ [x]).Nodup := by
  rw [List.nodup_append]
  exact ⟨h, by simp, fun a ha b hb => by simp at hb; subst hb; rintro rfl; exact hx ha⟩
theorem turned_add {w w1 w3 : World} {ok : Nat → Prop} {g m mb nd c1 : Nat} {ss : List ByteArray} {s : ByteArray} {v : Value} {A1 : Option Addr} {D : DataW Unit} (T : IsTable w ok g m ss)
    (h : w.heap[g]? = some (.cells #[.int .i64 (m : Int), v, .map (some mb)] 90 (0, 0))) (hM : w.ownsMap Try.prog 9 (plainElem Try.prog 3) mb ss.length D) (hD : MapIs D ss ∧ Maps.size D = ss.length) (hR : Kd.R Kd.string 9 w 0 ok v ss) (hg : ok g) (hmb : ok mb)
    (hn : s ∉ ss) (hm : ss.length < m) (hs1 : 1 ≤ s.size) (hs : s.size ≤ 96)
    (hblk : w1.heap[g]? = some (.cells #[.int .i64 (m : Int), v, .map (some mb)] 90 (0, 0))) (hmap : w1.ownsMap Try.prog 9 (plainElem Try.prog 3) mb ss.length D)
    (hown : Kd.R Kd.string 9 w1 0 (fun k => ok k ∨ w.heap.size ≤ k) (.slice A1 (ss ++ [s]).length c1) (ss ++ [s])) (hgw : (w.drewN nd).grownBy w1 v.ownBlock)
    (hown3 : w3.ownsMap Try.prog 9 (plainElem Try.prog 3) mb (ss.length + 1) (D.put (key s) (.lit (.int .i64 (ss.length : Int))))) (hg3 : (w1.setCell ⟨g, 1, none⟩ (.slice A1 (ss ++ [s]).length c1)).grownBy w3 (some mb)) :
    Turned w ok g m (ss ++ [s]) w3 := by
  have hne : mb ≠ g := map_ne hM h
  have hO : Only ok w w3 := (((Only.refl ok w).drewN nd).grown hgw (fun k hk _ => hR.1 k hk)).setCell (p := ⟨g, 1, none⟩) (fun _ => hg) _ |>.grown hg3 (fun k hk _ => by cases hk; exact hmb)
  have hb2 := blk_put hblk 1 (.slice A1 (ss ++ [s]).length c1) rfl
  have hb3 := blk_grown hb2 hg3 (by intro e; cases e; exact hne rfl)
  have hm2 : (w1.setCell ⟨g, 1, none⟩ (.slice A1 (ss ++ [s]).length c1)).ownsMap Try.prog 9 (plainElem Try.prog 3) mb ss.length D := hmap.setCell hne _
  have hr2 := Kd.R_set hown hblk (by decide) 1 (.slice A1 (ss ++ [s]).length c1)
  have hr3 : Kd.R Kd.string 9 w3 0 (fun k => ok k ∨ w.heap.size ≤ k) (.slice A1 (ss ++ [s]).length c1) (ss ++ [s]) := by
    refine Kd.R_mono (Kd.R_move (Kd.R_bound hr2) ?_) (fun _ hk => hk.1)
    rintro k ⟨_, _, hk, q, _, cells, hc⟩
    refine hg3.block k hk ?_
    intro e; cases e
    exact map_ne hm2 hc rfl
  have hidm : IsMap D := hmap.isMap
  refine ⟨fun k => (ok k ∨ w.heap.size ≤ k) ∧ k < w3.heap.size, ⟨⟨_, mb, _, hb3, Kd.R_mono (Kd.R_bound hr3) (fun k hk => ⟨hk.1, hk.2.2.1⟩), ?_, ⟨mapIs_put hidm hD.1 hn (keyLit s), ?_⟩, ⟨.inl hg, blk_lt hb3⟩, ⟨.inl hmb, hown3.lt⟩⟩, fun _ h => h.2, ?_⟩, fun _ h => h.1, hO⟩
  · simpa using hown3
  · rw [size_put (hmap.tidy law9), hD.2]
    have hf : Maps.has D (key s) = false := by
      cases hb : Maps.has D (key s)
      · rfl
      · exact absurd ((hD.1 s).1.1 hb) hn
    simp [hf]
  · exact ⟨nodup_snoc T.good.nodup hn, fun t ht => by
      rcases List.mem_append.1 ht with h | h
      · exact T.good.fits t h
      · simp at h; subst h; exact ⟨hs1, hs⟩, by simp; omega, T.good.cap⟩
set_option maxHeartbeats 1000000 in
theorem add_new (w : World) (ok : Nat → Prop) (g m : Nat) (ss : List ByteArray) (s : ByteArray) (hs : s.size ≤ 96) (hs1 : 1 ≤ s.size) (T : IsTable w ok g m ss) (hm : ss.length < m) (hn : s ∉ ss) :
    Calls Try.prog 43 #[.pointer (some ⟨g, 0, none⟩), .string s] w fun e w' => e = .returned (.tuple #[.int .i64 (ss.length : Int), .int .i64 0]) ∧ Turned w ok g m (ss ++ [s]) w' := by
  obtain ⟨v, mb, D, h, hR, hM, hD, hg, hmb⟩ := T.out
  obtain ⟨A, c, rfl⟩ := Kd.R_slice hR
  have c0 := (blk_cell h 0).trans (show _ = some (.int .i64 (m : Int)) from rfl)
  have c1 := (blk_cell h 1).trans (show _ = some (.slice A ss.length c) from rfl)
  have c2 := (blk_cell h 2).trans (show _ = some (.map (some mb)) from rfl)
  have H := Aside0.mk h
  have HM := Aside0.mk hM
  have HD := Aside0.mk hD
  have HR := Aside0.mk hR
  have hsm : s.size ≤ maxLen := by unfold maxLen; omega
  have hkey : keyOf Try.prog 9 (.string s) = some (key s) := keyOf_string_mk Try.underlying9 hsm
  have hl : ss.length ≤ 4096 := by have := T.good.le; have := T.good.cap; omega
  have hmc := T.good.cap
  have b0 : decide ((s.size : Int) < 1) = false := decide_eq_false (by omega)
  have b1 : decide (96 < (s.size : Int)) = false := decide_eq_false (by omega)
  have b2 : decide ((m : Int) ≤ (ss.length : Int)) = false := decide_eq_false (by omega)
  have hno : Maps.has D (key s) = false := by
    cases hb : Maps.has D (key s)
    · rfl
    · exact absurd ((hD.1 s).1.1 hb) hn
  have HT := Aside0.mk T
  have HG := Aside0.mk hg
  have HMB := Aside0.mk hmb
  clear h hM hD hR T hg hmb
  go_enter Try.func43, Try.ntmps43
  go_wp2_with fail
  refine (none_no _ g mb _ m (by exact H.out)).mono ?_; rintro e w' ⟨rfl, ⟨nd, rfl⟩⟩
  go_wp2_with (first
    | (at_lookup; refine wpList_lookup_own_ok_int _ rfl _ _ 88 rfl 9 3 .i64 law9 Try.underlying88 Try.underlying3 (zero3 _) mb ss.length D rfl (by exact HM.out) _ _ rfl hkey ?_; intro cc hat hwc; clear hat)
    | (at_builtin; refine Kd.R_append Kd.string (w0 := w) 0 rfl (.tmp 47) (.tmp 49) 36 9 (.string ⟨#[]⟩) 16 rfl Try.underlying36 info9 rfl (by decide) (by omega) (.slice A ss.length c) ss s [.string s] (fun k => ok k ∨ w.heap.size ≤ k) (fun _ => False) rfl rfl rfl (fun _ hk => hk.elim) (fun k hk => .inr (by exact hk)) (by exact Kd.R_mono HR.out (fun k hk => .inl hk)) (by exact pw_below_drewN (Below.refl _ _) _) (Nat.zero_le _) (by omega) ?_; intro v1 w1 hown hb hgw hat; obtain ⟨hblk, hmap⟩ := after_append H.out HM.out HR.out hgw; obtain ⟨A1, cc1, rfl⟩ := Kd.R_slice hown; have e1 := (blk_cell hblk 1).trans (show _ = some (.slice A ss.length c) from rfl); have e2 := (blk_cell hblk 2).trans (show _ = some (.map (some mb)) from rfl); have e3 := blk_frozen hblk 1; have HBK := Aside0.mk hblk; have HMP := Aside0.mk hmap; have HOW := Aside0.mk hown; have HGW := Aside0.mk hgw; have HAT := Aside0.mk hat; clear hblk hmap hown hgw hat hb c0 c1 c2)
    | (at_mapUpdate; refine wpList_mapUpdate_own _ rfl _ _ _ 88 rfl 9 3 law9 Try.underlying88 _ mb ss.length _ rfl (by exact HMP.out.setCell (map_ne HMP.out HBK.out) _) (by unfold maxLen; omega) _ _ _ rfl rfl hkey _ [] (plainElem_int Try.underlying3 (WalkArith.wf_i64 (by omega))) ?_; intro w3 hown3 hg3)
    | go_in)
  go_ret2
  exact ⟨rfl, turned_add HT.out H.out HM.out HD.out HR.out HG.out HMB.out hn hm hs1 hs HBK.out HMP.out HOW.out HGW.out hown3 (by simpa using hg3)⟩

theorem add_bad (w : World) (ok : Nat → Prop) (g m : Nat) (ss : List ByteArray) (s : ByteArray) (hs : ¬ (1 ≤ s.size ∧ s.size ≤ 96)) (T : IsTable w ok g m ss) :
    Calls Try.prog 43 #[.pointer (some ⟨g, 0, none⟩), .string s] w fun e w' => e = .returned (.tuple #[.int .i64 0, .int .i64 61]) ∧ Drawn0 w w' := by
  obtain ⟨v, mb, D, h, hR, hM, hD, hg, hmb⟩ := T.out
  obtain ⟨A, c, rfl⟩ := Kd.R_slice hR
  have c0 := (blk_cell h 0).trans (show _ = some (.int .i64 (m : Int)) from rfl)
  have c1 := (blk_cell h 1).trans (show _ = some (.slice A ss.length c) from rfl)
  have c2 := (blk_cell h 2).trans (show _ = some (.map (some mb)) from rfl)
  have H := Aside0.mk h
  have HM := Aside0.mk hM
  have HD := Aside0.mk hD
  have hl : ss.length ≤ 4096 := by have := T.good.le; have := T.good.cap; omega
  have hmc := T.good.cap
  clear h hM hD hR T hg hmb
  by_cases h0 : s.size < 1
  · have b0 : decide ((s.size : Int) < 1) = true := decide_eq_true (by omega)
    go_enter Try.func43, Try.ntmps43
    go_wp2_with fail
    refine (none_no _ g mb _ m (by exact H.out)).mono ?_; rintro e w' ⟨rfl, ⟨nd, rfl⟩⟩
    go_wp2
    go_ret2
    exact ⟨by first | rfl | (simp; done) | (simp [*]; done), by repeat (first | exact Drawn0.refl _ | apply Drawn0.step)⟩
  · have b0 : decide ((s.size : Int) < 1) = false := decide_eq_false (by omega)
    have b1 : decide (96 < (s.size : Int)) = true := decide_eq_true (by omega)
    go_enter Try.func43, Try.ntmps43
    go_wp2_with fail
    refine (none_no _ g mb _ m (by exact H.out)).mono ?_; rintro e w' ⟨rfl, ⟨nd, rfl⟩⟩
    go_wp2
    go_ret2
    exact ⟨by first | rfl | (simp; done) | (simp [*]; done), by repeat (first | exact Drawn0.refl _ | apply Drawn0.step)⟩

theorem add_there (w : World) (ok : Nat → Prop) (g m : Nat) (ss : List ByteArray) (s : ByteArray) (hs : s.size ≤ 96) (hs1 : 1 ≤ s.size) (T : IsTable w ok g m ss) (hn : s ∈ ss) :
    Calls Try.prog 43 #[.pointer (some ⟨g, 0, none⟩), .string s] w fun e w' => ∃ i : Nat, ss[i]? = some s ∧ e = .returned (.tuple #[.int .i64 (i : Int), .int .i64 0]) ∧ Drawn0 w w' := by
  obtain ⟨v, mb, D, h, hR, hM, hD, hg, hmb⟩ := T.out
  obtain ⟨A, c, rfl⟩ := Kd.R_slice hR
  have c0 := (blk_cell h 0).trans (show _ = some (.int .i64 (m : Int)) from rfl)
  have c1 := (blk_cell h 1).trans (show _ = some (.slice A ss.length c) from rfl)
  have c2 := (blk_cell h 2).trans (show _ = some (.map (some mb)) from rfl)
  have H := Aside0.mk h
  have HM := Aside0.mk hM
  have HD := Aside0.mk hD
  have hl : ss.length ≤ 4096 := by have := T.good.le; have := T.good.cap; omega
  have hmc := T.good.cap
  clear h hM hD hR T hg hmb
  have hsm : s.size ≤ maxLen := by unfold maxLen; omega
  have hkey : keyOf Try.prog 9 (.string s) = some (key s) := keyOf_string_mk Try.underlying9 hsm
  have b0 : decide ((s.size : Int) < 1) = false := decide_eq_false (by omega)
  have b1 : decide (96 < (s.size : Int)) = false := decide_eq_false (by omega)
  have hyes : Maps.has D (key s) = true := (HD.out.1 s).1.2 hn
  have HN := Aside0.mk hn
  clear hn
  go_enter Try.func43, Try.ntmps43
  go_wp2_with fail
  refine (none_no _ g mb _ m (by exact H.out)).mono ?_; rintro e w' ⟨rfl, ⟨nd, rfl⟩⟩
  go_wp2_with (first
    | (at_lookup; refine wpList_lookup_own_ok_int _ rfl _ _ 88 rfl 9 3 .i64 law9 Try.underlying88 Try.underlying3 (zero3 _) mb ss.length D rfl (by exact HM.out) _ _ rfl hkey ?_; intro cc hat hwc; have HF := Aside0.mk (found_of HD.out.1 s cc hat); clear hat)
    | go_in)
  go_ret2
  rcases HF.out with ⟨i, hi, hc, _⟩ | ⟨h, _⟩
  · exact ⟨i, hi, by rw [← hc]; rfl, by repeat (first | exact Drawn0.refl _ | apply Drawn0.step)⟩
  · exact absurd HN.out h

theorem add_full (w : World) (ok : Nat → Prop) (g m : Nat) (ss : List ByteArray) (s : ByteArray) (hs : s.size ≤ 96) (hs1 : 1 ≤ s.size) (T : IsTable w ok g m ss) (hn : s ∉ ss) (hm : m ≤ ss.length) :
    Calls Try.prog 43 #[.pointer (some ⟨g, 0, none⟩), .string s] w fun e w' => e = .returned (.tuple #[.int .i64 0, .int .i64 60]) ∧ Drawn0 w w' := by
  obtain ⟨v, mb, D, h, hR, hM, hD, hg, hmb⟩ := T.out
  obtain ⟨A, c, rfl⟩ := Kd.R_slice hR
  have c0 := (blk_cell h 0).trans (show _ = some (.int .i64 (m : Int)) from rfl)
  have c1 := (blk_cell h 1).trans (show _ = some (.slice A ss.length c) from rfl)
  have c2 := (blk_cell h 2).trans (show _ = some (.map (some mb)) from rfl)
  have H := Aside0.mk h
  have HM := Aside0.mk hM
  have HD := Aside0.mk hD
  have hl : ss.length ≤ 4096 := by have := T.good.le; have := T.good.cap; omega
  have hmc := T.good.cap
  clear h hM hD hR T hg hmb
  have hsm : s.size ≤ maxLen := by unfold maxLen; omega
  have hkey : keyOf Try.prog 9 (.string s) = some (key s) := keyOf_string_mk Try.underlying9 hsm
  have b0 : decide ((s.size : Int) < 1) = false := decide_eq_false (by omega)
  have b1 : decide (96 < (s.size : Int)) = false := decide_eq_false (by omega)
  have b2 : decide ((m : Int) ≤ (ss.length : Int)) = true := decide_eq_true (by omega)
  have hno : Maps.has D (key s) = false := by
    cases hb : Maps.has D (key s)
    · rfl
    · exact absurd ((HD.out.1 s).1.1 hb) hn
  clear hn
  go_enter Try.func43, Try.ntmps43
  go_wp2_with fail
  refine (none_no _ g mb _ m (by exact H.out)).mono ?_; rintro e w' ⟨rfl, ⟨nd, rfl⟩⟩
  go_wp2_with (first
    | (at_lookup; refine wpList_lookup_own_ok_int _ rfl _ _ 88 rfl 9 3 .i64 law9 Try.underlying88 Try.underlying3 (zero3 _) mb ss.length D rfl (by exact HM.out) _ _ rfl hkey ?_; intro cc hat hwc; have HF := Aside0.mk (found_of HD.out.1 s cc hat); clear hat)
    | go_in)
  go_ret2
  exact ⟨by first | rfl | (simp; done) | (simp [*]; done), by repeat (first | exact Drawn0.refl _ | apply Drawn0.step)⟩

theorem turned_same {w w' : World} {ok : Nat → Prop} {g m : Nat} {ss : List ByteArray} (T : IsTable w ok g m ss) (h : Drawn0 w w') : Turned w ok g m ss w' := by
  obtain ⟨n, rfl⟩ := h
  exact ⟨ok, T.drewN n, fun _ h => .inl h, (Only.refl _ _).drewN n⟩
/-- Add, whatever is added -/
theorem add_calls (w : World) (ok : Nat → Prop) (g m : Nat) (ss : List ByteArray) (s : ByteArray) (T : IsTable w ok g m ss) :
    Calls Try.prog 43 #[.pointer (some ⟨g, 0, none⟩), .string s] w fun e w' => ∃ n e0 ss', AddIs m ss s n e0 ss' ∧ e = .returned (.tuple #[.int .i64 n, .int .i64 e0]) ∧ Turned w ok g m ss' w' := by
  by_cases hs : 1 ≤ s.size ∧ s.size ≤ 96
  · by_cases hn : s ∈ ss
    · refine (add_there w ok g m ss s hs.2 hs.1 T hn).mono ?_
      rintro e w' ⟨i, hi, rfl, hd⟩
      exact ⟨_, _, _, .there hs i hi, rfl, turned_same T hd⟩
    · by_cases hm : ss.length < m
      · refine (add_new w ok g m ss s hs.2 hs.1 T hm hn).mono ?_
        rintro e w' ⟨rfl, ht⟩
        exact ⟨_, _, _, .new hs hn hm, rfl, ht⟩
      · refine (add_full w ok g m ss s hs.2 hs.1 T hn (by omega)).mono ?_
        rintro e w' ⟨rfl, hd⟩
        exact ⟨_, _, _, .full hs hn (by omega), rfl, turned_same T hd⟩
  · refine (add_bad w ok g m ss s hs T).mono ?_
    rintro e w' ⟨rfl, hd⟩
    exact ⟨_, _, _, .bad hs, rfl, turned_same T hd⟩

theorem new_bad (w : World) (n : Int) (h : ¬ (0 ≤ n ∧ n ≤ 4096)) :
    Calls Try.prog 47 #[.int .i64 n] w fun e w' => e = .returned (.tuple #[.pointer none, .int .i64 1]) ∧ Drawn0 w w' := by
  by_cases h0 : n < 0
  · have b0 : decide (n < 0) = true := decide_eq_true h0
    go_enter Try.func47, Try.ntmps47
    go_wp2
    go_ret2
    exact ⟨by first | rfl | (simp; done) | (simp [*]; done), by repeat (first | exact Drawn0.refl _ | apply Drawn0.step)⟩
  · have b0 : decide (n < 0) = false := decide_eq_false h0
    have b1 : decide (4096 < n) = true := decide_eq_true (by omega)
    go_enter Try.func47, Try.ntmps47
    go_wp2
    go_ret2
    exact ⟨by first | rfl | (simp; done) | (simp [*]; done), by repeat (first | exact Drawn0.refl _ | apply Drawn0.step)⟩
theorem mapIs_none : MapIs (.map [] : DataW Unit) [] := by
  intro s
  refine ⟨by simp [has_eq], fun i h => by simp at h⟩
theorem new_ok (w : World) (m : Nat) (h : m ≤ 4096) :
    Calls Try.prog 47 #[.int .i64 (m : Int)] w fun e w' => ∃ g ok, e = .returned (.tuple #[.pointer (some ⟨g, 0, none⟩), .int .i64 0]) ∧ IsTable w' ok g m [] ∧ (∀ i, ok i → w.heap.size ≤ i) ∧ Below w.heap.size w w' := by
  have b0 : decide ((m : Int) < 0) = false := decide_eq_false (by omega)
  have b1 : decide (4096 < (m : Int)) = false := decide_eq_false (by omega)
  have hmm := @run_makeMap Try.prog
  go_enter Try.func47, Try.ntmps47
  go_wp2
  go_ret2
  refine ⟨w.heap.size + 1, fun i => i = w.heap.size ∨ i = w.heap.size + 1, rfl, ⟨⟨.slice none 0 0, w.heap.size, .map [], ?_, Kd.R_nil _ _ _ _ _, ?_, ⟨mapIs_none, rfl⟩, .inr rfl, .inl rfl⟩, ?_, ⟨List.nodup_nil, fun _ h => by simp at h, Nat.zero_le _, h⟩⟩, ?_, ?_⟩
  · have := heap_alloc_new (w.alloc (.map #[] 0)) (.cells #[.int .i64 (m : Int), .slice none 0 0, .map (some w.heap.size)] 90)
    simpa using this
  · exact (World.ownsMap_made w _ _ _).alloc _
  · rintro i (rfl | rfl)
    · simp; omega
    · simp
  · rintro i (rfl | rfl) <;> omega
  · exact below_alloc (below_alloc (Below.refl _ _) _) _
theorem clone_calls (w : World) (base : Nat) (ok : Nat → Prop) (A : Option Addr) (c : Nat) (l : List ByteArray) (hR : Kd.R Kd.string 9 w base ok (.slice A l.length c) l) (hl : l.length ≤ 4096) :
    Calls Try.prog 68 #[.slice A l.length c] w fun e w' => ∃ v, e = .returned v ∧ Kd.R Kd.string 9 w' w.heap.size (fun _ => True) v l ∧ Below w.heap.size w w' := by
  cases l with
  | nil =>
    cases A with
    | none =>
      refine (Try.slices_Clone_string_nil 0 c w).mono ?_
      rintro e w' ⟨rfl, rfl⟩
      exact ⟨_, rfl, Kd.R_nil _ _ _ _ _, Below.refl _ _⟩
    | some a =>
      refine (Try.slices_Clone_string_zero a c w).mono ?_
      rintro e w' ⟨v, rfl, ho, _, hb⟩
      exact ⟨_, rfl, Kd.R_of_own ho (fun _ _ => trivial), hb⟩
  | cons x xs =>
    obtain ⟨g, cap, hv, _, hlt, _⟩ := Kd.R_form hR (by simp)
    injection hv with h1 h2 h3
    subst h1
    obtain ⟨_, _, hC⟩ := Kd.R_reads' hR
    have hcells : ∀ j, j < (x :: xs).length → w.cell? ⟨g, 0 + j, none⟩ = some (.string ((x :: xs).getD j ByteArray.empty)) := by
      intro j hj
      obtain ⟨ad, e, hc⟩ := Kd.at_string hC (j : Int) (by omega) (by omega)
      cases e
      rw [add_plain] at hc
      simpa [rdOf] using hc
    refine (Try.slices_Clone_string g 0 (x :: xs).length c (x :: xs) w (Nat.le_refl _) (by omega) hcells).mono ?_
    rintro e w' ⟨v, rfl, ho, _, hb⟩
    rw [List.take_length] at ho
    exact ⟨_, rfl, Kd.R_of_own ho (fun _ _ => trivial), hb⟩
/-- All: the texts in new memory -/
theorem all_calls (w : World) (ok : Nat → Prop) (g m : Nat) (ss : List ByteArray) (T : IsTable w ok g m ss) :
    Calls Try.prog 41 #[.pointer (some ⟨g, 0, none⟩)] w fun e w' => ∃ v, e = .returned v ∧ Kd.R Kd.string 9 w' w.heap.size (fun _ => True) v ss ∧ Below w.heap.size w w' := by
  obtain ⟨v, mb, D, h, hR, hM, hD, hg, hmb⟩ := T.out
  obtain ⟨A, c, rfl⟩ := Kd.R_slice hR
  have c1 := (blk_cell h 1).trans (show _ = some (.slice A ss.length c) from rfl)
  have H := Aside0.mk h
  have HR := Aside0.mk hR
  have hl : ss.length ≤ 4096 := by have := T.good.le; have := T.good.cap; omega
  clear h hM hD hR T hg hmb
  go_enter Try.func41, Try.ntmps41
  go_wp2_with fail
  refine (none_no _ g mb _ m (by exact H.out)).mono ?_; rintro e w' ⟨rfl, ⟨nd, rfl⟩⟩
  go_wp2_with fail
  refine (clone_calls _ 0 ok A c ss (by exact HR.out) hl).mono ?_; rintro e w' ⟨v, rfl, hR, hB⟩
  have hB' := below_weaken (w0 := w) (pw_below_drewN (Below.refl _ _) nd) (Nat.le_refl _) hB
  go_wp2
  go_ret
  exact ⟨_, rfl, by exact hR, by exact hB'⟩

/-- a map that numbers those texts of a list whose places are let in -/
def MapAt (D : DataW Unit) (ss : List ByteArray) (p : Nat → Prop) : Prop :=
  ∀ s : ByteArray, (Maps.has D (key s) = true ↔ ∃ i, ss[i]? = some s ∧ p i) ∧ ∀ i : Nat, ss[i]? = some s → p i → D.atKey (key s) (.lit (.int .i64 0)) = .lit (.int .i64 (i : Int))
theorem mapAt_of {D : DataW Unit} {ss : List ByteArray} (h : MapIs D ss) : MapAt D ss (fun _ => True) := fun s =>
  ⟨by rw [(h s).1]; constructor
      · intro hm; obtain ⟨i, hi⟩ := List.mem_iff_getElem?.1 hm; exact ⟨i, hi, trivial⟩
      · rintro ⟨i, hi, _⟩; exact List.mem_of_getElem? hi, fun i hi _ => (h s).2 i hi⟩
theorem key_inj {s t : ByteArray} (h : key t = key s) : t = s := by
  unfold key at h
  injection h with h
  exact ByteArray.ext (Array.ext' h)
theorem mapAt_del {D : DataW Unit} {ss : List ByteArray} {p : Nat → Prop} {k : Nat} {s : ByteArray} (hn : ss.Nodup) (h : MapAt D ss p) (hk : ss[k]? = some s) : MapAt (D.del (key s)) ss (fun i => p i ∧ i ≠ k) := by
  intro t
  obtain ⟨h1, h2⟩ := h t
  by_cases e : t = s
  · subst e
    refine ⟨?_, ?_⟩
    · rw [has_del_same]
      constructor
      · intro h; cases h
      · rintro ⟨i, hi, _, hne⟩
        exact absurd (((List.getElem?_inj (List.getElem?_eq_some_iff.1 hi).1 hn).1 (hi.trans hk.symm))) hne
    · intro i hi hp
      exact absurd (((List.getElem?_inj (List.getElem?_eq_some_iff.1 hi).1 hn).1 (hi.trans hk.symm))) hp.2
  · have hne : key t ≠ key s := fun h => e (key_inj h)
    refine ⟨?_, fun i hi hp => by rw [atKey_del_other hne]; exact h2 i hi hp.1⟩
    rw [has_del_other hne, h1]
    constructor
    · rintro ⟨i, hi, hp⟩
      exact ⟨i, hi, hp, by rintro rfl; rw [hk] at hi; exact e (Option.some.inj hi).symm⟩
    · rintro ⟨i, hi, hp, _⟩; exact ⟨i, hi, hp⟩
theorem mapIs_take {D : DataW Unit} {ss : List ByteArray} {n : Nat} {p : Nat → Prop} (h : MapAt D ss p) (hp : ∀ i, i < ss.length → (p i ↔ i < n)) : MapIs D (ss.take n) := by
  intro s
  obtain ⟨h1, h2⟩ := h s
  have key : ∀ i, (ss.take n)[i]? = some s ↔ ss[i]? = some s ∧ i < n := by
    intro i
    rw [List.getElem?_take]
    by_cases hi : i < n
    · simp [hi]
    · simp [hi]
  refine ⟨?_, fun i hi => ?_⟩
  · rw [h1]
    constructor
    · rintro ⟨i, hi, hpi⟩
      exact List.mem_of_getElem? ((key i).2 ⟨hi, (hp i (List.getElem?_eq_some_iff.1 hi).1).1 hpi⟩)
    · intro hm
      obtain ⟨i, hi⟩ := List.mem_iff_getElem?.1 hm
      obtain ⟨a, b⟩ := (key i).1 hi
      exact ⟨i, a, (hp i (List.getElem?_eq_some_iff.1 a).1).2 b⟩
  · obtain ⟨a, b⟩ := (key i).1 hi
    exact h2 i a ((hp i (List.getElem?_eq_some_iff.1 a).1).2 b)
theorem mapAt_start {D : DataW Unit} {ss : List ByteArray} (h : MapIs D ss) (n : Nat) : MapAt D ss (fun k => k < n ∨ n + 0 ≤ k) := by
  have e : (fun k => k < n ∨ n + 0 ≤ k) = (fun _ => True) := by funext k; simp; omega
  rw [e]; exact mapAt_of h
theorem mapAt_step {D : DataW Unit} {ss : List ByteArray} {n j : Nat} {s : ByteArray} (hn : ss.Nodup) (h : MapAt D ss (fun k => k < n ∨ n + j ≤ k)) (hk : ss[n + j]? = some s) : MapAt (D.del (key s)) ss (fun k => k < n ∨ n + (j + 1) ≤ k) := by
  have e : (fun k => k < n ∨ n + (j + 1) ≤ k) = (fun k => (k < n ∨ n + j ≤ k) ∧ k ≠ n + j) := by funext k; simp only [eq_iff_iff]; omega
  rw [e]; exact mapAt_del hn h hk
theorem size_step {D : DataW Unit} {ss : List ByteArray} {n j : Nat} {s : ByteArray} (ht : Tidy D) (h : MapAt D ss (fun k => k < n ∨ n + j ≤ k)) (hk : ss[n + j]? = some s) (hs : Maps.size D + j = ss.length) : Maps.size (D.del (key s)) + (j + 1) = ss.length := by
  have := size_del (k := key s) ht
  rw [((h s).1).2 ⟨n + j, hk, .inr (Nat.le_refl _)⟩] at this
  simp at this; omega
theorem turned_back {w wr w' : World} {ok : Nat → Prop} {g m mb n j c : Nat} {ss : List ByteArray} {A : Option Addr} {D D' : DataW Unit} (T : IsTable w ok g m ss)
    (h : w.heap[g]? = some (.cells #[.int .i64 (m : Int), .slice A ss.length c, .map (some mb)] 90 (0, 0))) (hM0 : w.ownsMap Try.prog 9 (plainElem Try.prog 3) mb ss.length D) (hR : Kd.R Kd.string 9 w 0 ok (.slice A ss.length c) ss) (hn : n ≤ ss.length) (hj : n + j = ss.length)
    (hM : wr.ownsMap Try.prog 9 (plainElem Try.prog 3) mb ss.length D') (hA : MapAt D' ss (fun k => k < n ∨ n + j ≤ k)) (hS : Maps.size D' + j = ss.length) (hG : Only (fun i => i = mb) w wr)
    (hblk : wr.heap[g]? = some (.cells #[.int .i64 (m : Int), .slice A ss.length c, .map (some mb)] 90 (0, 0))) (hd : Drawn0 (wr.setCell ⟨g, 1, none⟩ (.slice A n c)) w') (hg : ok g) (hmb : ok mb) :
    Turned w ok g m (ss.take n) w' := by
  obtain ⟨k, rfl⟩ := hd
  have hne := map_ne hM0 h
  have hR' := Kd.R_take hR hn
  have hr1 : Kd.R Kd.string 9 wr 0 ok (.slice A n c) (ss.take n) := by
    refine Kd.R_mono (Kd.R_move (Kd.R_bound hR') ?_) (fun _ hk => hk.1)
    rintro i ⟨_, _, hi, q, _, cells, hc⟩
    exact hG.block i hi (by rintro rfl; exact map_ne hM0 hc rfl)
  have hr2 := Kd.R_set hr1 hblk (by decide) 1 (.slice A n c)
  have hO : Only ok w ((wr.setCell ⟨g, 1, none⟩ (.slice A n c)).drewN k) := (((Only.refl ok w).trans hG (fun i _ e => e ▸ hmb)).setCell (p := ⟨g, 1, none⟩) (fun _ => hg) _).drewN k
  have ht : (ss.take n).length = n := by simp; omega
  refine ⟨ok, ⟨⟨.slice A n c, mb, D', blk_put hblk 1 (.slice A n c) rfl, by exact hr2, ?_, ⟨mapIs_take hA (fun i hi => by omega), by omega⟩, hg, hmb⟩, fun i hi => Nat.lt_of_lt_of_le (T.lt i hi) hO.size, ?_⟩, fun _ h => .inl h, hO⟩
  · have := own_tight (hM.setCell (a := ⟨g, 1, none⟩) hne (.slice A n c))
    rw [show Maps.size D' = (ss.take n).length by omega] at this
    exact this
  · exact ⟨T.good.nodup.sublist (List.take_sublist _ _), fun s hs => T.good.fits s (List.mem_of_mem_take hs), by have := T.good.le; omega, T.good.cap⟩
theorem back_ok (w : World) (ok : Nat → Prop) (g m : Nat) (ss : List ByteArray) (n : Nat) (T : IsTable w ok g m ss) (h1 : n ≤ ss.length) :
    Calls Try.prog 53 #[.pointer (some ⟨g, 0, none⟩), .int .i64 (n : Int)] w fun e w' => e = .returned (.int .i64 0) ∧ Turned w ok g m (ss.take n) w' := by
  obtain ⟨v, mb, D, h, hR, hM, hD, hg, hmb⟩ := T.out
  obtain ⟨A, c, rfl⟩ := Kd.R_slice hR
  have c1 := (blk_cell h 1).trans (show _ = some (.slice A ss.length c) from rfl)
  have c2 := (blk_cell h 2).trans (show _ = some (.map (some mb)) from rfl)
  have H := Aside0.mk h
  have HR := Aside0.mk hR
  have hl : ss.length ≤ 4096 := by have := T.good.le; have := T.good.cap; omega
  have b0 : decide ((n : Int) < 0) = false := decide_eq_false (by omega)
  have b1 : decide ((ss.length : Int) < (n : Int)) = false := decide_eq_false (by omega)
  have b2 : decide (ss.length < n) = false := decide_eq_false (by omega)
  have HM := Aside0.mk hM
  have HD := Aside0.mk hD
  have HT := Aside0.mk T
  have HG := Aside0.mk hg
  have HMB := Aside0.mk hmb
  clear h hM hD hR T hg hmb
  go_enter Try.func53, Try.ntmps53
  go_wp2_with fail
  refine (none_no _ g mb _ m (by exact H.out)).mono ?_; rintro e w' ⟨rfl, ⟨nd, rfl⟩⟩
  go_wp2_with fail
  go_loopw [28] (fun i wr => ∃ (j : Nat) (D' : DataW Unit), i = .int .i64 (j : Int) ∧ n + j ≤ ss.length ∧ Aside0 (wr.ownsMap Try.prog 9 (plainElem Try.prog 3) mb ss.length D') ∧ Aside0 (MapAt D' ss (fun k => k < n ∨ n + j ≤ k)) ∧ Aside0 (Maps.size D' + j = ss.length) ∧ Aside0 (Only (fun i => i = mb) w wr))
    (fun i _ => ss.length - n - (intOf i).toNat)
  case atStart => exact ⟨0, D, rfl, by omega, ⟨by exact HM.out⟩, ⟨mapAt_start HD.out.1 n⟩, ⟨by have := HD.out.2; omega⟩, ⟨(Only.refl _ _).drewN _⟩⟩
  case round =>
    obtain ⟨j, D', rfl, hj, hM, hA, hS, hG⟩ := hrel
    have hne := map_ne HM.out H.out
    have hblk := (hG.out.block g (blk_lt H.out) (fun e => hne e.symm)).trans H.out
    have d1 := (blk_cell hblk 1).trans (show _ = some (.slice A ss.length c) from rfl)
    have d2 := (blk_cell hblk 2).trans (show _ = some (.map (some mb)) from rfl)
    by_cases hlt : n + j < ss.length
    · obtain ⟨_, _, hC⟩ := Kd.R_reads' HR.out
      obtain ⟨ad, rfl, hcw⟩ := Kd.at_string hC ((n + j : Nat) : Int) (by omega) (by omega)
      have hcell : wr.cell? (ad.add (n + j)) = some (.string (rdOf ByteArray.empty ss ((n + j : Nat) : Int))) := by
        have hb := World.block_lt_of_cell? w _ hcw
        have hbn : (ad.add (n + j)).block ≠ mb := by
          rw [add_block]
          obtain ⟨g', cap', hv, _, _, cells, hc⟩ := Kd.R_form HR.out (by omega)
          injection hv with hv; injection hv with hv; subst hv
          rintro rfl
          exact map_ne HM.out hc rfl
        rw [show ((n + j : Nat) : Int).toNat = n + j by omega] at hcw
        exact (World.cell?_of_block (hG.out.block _ hb hbn)).trans hcw
      have hss : ss[n + j]? = some (rdOf ByteArray.empty ss ((n + j : Nat) : Int)) := by
        unfold rdOf
        rw [show ((n + j : Nat) : Int).toNat = n + j by omega, List.getD_eq_getElem?_getD, List.getElem?_eq_getElem hlt]; rfl
      have hsz : (rdOf ByteArray.empty ss ((n + j : Nat) : Int)).size ≤ maxLen := by
        have := (HT.out.good.fits _ (List.mem_of_getElem? hss)).2
        unfold maxLen; omega
      have hkey : keyOf Try.prog 9 (.string (rdOf ByteArray.empty ss ((n + j : Nat) : Int))) = some (key (rdOf ByteArray.empty ss ((n + j : Nat) : Int))) := keyOf_string_mk Try.underlying9 hsz
      generalize rdOf ByteArray.empty ss ((n + j : Nat) : Int) = s at *
      have HSS := Aside0.mk hss
      clear hss hsz
      have b3 : decide ((j : Int) < (ss.length : Int) - (n : Int)) = true := decide_eq_true (by omega)
      have wr1 : IntKind.i64.wrap ((n : Int) + (j : Int)) = (n : Int) + (j : Int) := IntWalk.i64_in _ (by omega)
      have i0 : 0 ≤ (n : Int) + (j : Int) := by omega
      have i1 : (n : Int) + (j : Int) < (ss.length : Int) := by omega
      have i2 : ((n : Int) + (j : Int)).toNat = n + j := by omega
      have HBK := Aside0.mk hblk
      clear hblk hC hcw c1 c2
      go_wp2_with fail
      go_still_tail 13, (by kernel_rfl)
      go_wp2_with (at_delete; refine wpList_delete_own _ rfl _ _ 88 9 rfl 3 law9 Try.underlying88 _ mb ss.length D' rfl (by exact hM.out) _ _ rfl hkey ?_; intro w1 hown1 hturn1; have HO := Aside0.mk hown1; have HTU := Aside0.mk hturn1; clear hown1 hturn1)
      go_roundw
      case rel =>
        exact ⟨j + 1, D'.del (key s), by go_num, by omega, HO, ⟨mapAt_step HT.out.good.nodup hA.out HSS.out⟩, ⟨size_step (hM.out.tidy law9) hA.out HSS.out hS.out⟩, ⟨(hG.out.drewN 1).grown (HTU.out.grown) (fun k hk _ => by cases hk; rfl)⟩⟩
      case measure => simp [intOf]; omega
    · have hj2 : n + j = ss.length := by omega
      have b3 : decide ((j : Int) < (ss.length : Int) - (n : Int)) = false := decide_eq_false (by omega)
      have f1 := blk_frozen hblk 1
      have hnc : n ≤ c := by obtain ⟨_, h, _⟩ := Kd.R_reads' HR.out; omega
      have HBK := Aside0.mk hblk
      clear hblk c1 c2
      go_wp2
      go_ret
      exact ⟨rfl, turned_back HT.out H.out HM.out HR.out h1 hj2 hM.out hA.out hS.out hG.out HBK.out (by first | exact Drawn0.refl _ | exact ⟨⟨_, rfl⟩⟩) HG.out HMB.out⟩
theorem back_bad (w : World) (ok : Nat → Prop) (g m : Nat) (ss : List ByteArray) (n : Int) (T : IsTable w ok g m ss) (h1 : n < 0 ∨ (ss.length : Int) < n) :
    Calls Try.prog 53 #[.pointer (some ⟨g, 0, none⟩), .int .i64 n] w fun e w' => e = .returned (.int .i64 1) ∧ Drawn0 w w' := by
  obtain ⟨v, mb, D, h, hR, hM, hD, hg, hmb⟩ := T.out
  obtain ⟨A, c, rfl⟩ := Kd.R_slice hR
  have c1 := (blk_cell h 1).trans (show _ = some (.slice A ss.length c) from rfl)
  have H := Aside0.mk h
  clear h hM hD hR T hg hmb
  by_cases h0 : n < 0
  · have b0 : decide (n < 0) = true := decide_eq_true h0
    go_enter Try.func53, Try.ntmps53
    go_wp2_with fail
    refine (none_no _ g mb _ m (by exact H.out)).mono ?_; rintro e w' ⟨rfl, ⟨nd, rfl⟩⟩
    go_wp2
    go_ret
    exact ⟨by first | rfl | (simp; done) | (simp [*]; done), by repeat (first | exact Drawn0.refl _ | apply Drawn0.step)⟩
  · have b0 : decide (n < 0) = false := decide_eq_false h0
    have b1 : decide ((ss.length : Int) < n) = true := decide_eq_true (by omega)
    go_enter Try.func53, Try.ntmps53
    go_wp2_with fail
    refine (none_no _ g mb _ m (by exact H.out)).mono ?_; rintro e w' ⟨rfl, ⟨nd, rfl⟩⟩
    go_wp2
    go_ret
    exact ⟨by first | rfl | (simp; done) | (simp [*]; done), by repeat (first | exact Drawn0.refl _ | apply Drawn0.step)⟩

open Classical in
/-- the texts behind an Add -/
noncomputable def addF (m : Nat) (ss : List ByteArray) (s : ByteArray) : List ByteArray :=
  if ¬ (1 ≤ s.size ∧ s.size ≤ 96) then ss else if s ∈ ss then ss else if m ≤ ss.length then ss else ss ++ [s]
theorem addF_of {m : Nat} {ss ss' : List ByteArray} {s : ByteArray} {n e : Int} (h : AddIs m ss s n e ss') : ss' = addF m ss s := by
  unfold addF
  cases h with
  | bad h => rw [if_pos h]
  | there h i hi => rw [if_neg (fun k => k h), if_pos (List.mem_of_getElem? hi)]
  | full h h1 h2 => rw [if_neg (fun k => k h), if_neg h1, if_pos h2]
  | new h h1 h2 => rw [if_neg (fun k => k h), if_neg h1, if_neg (by omega)]
/-- what an Add answers is told by the texts -/
theorem add_det {m : Nat} {ss a b : List ByteArray} {s : ByteArray} {n e n' e' : Int} (hn : ss.Nodup) (h : AddIs m ss s n e a) (k : AddIs m ss s n' e' b) : n = n' ∧ e = e' ∧ a = b := by
  cases h with
  | bad h => cases k with
    | bad _ => exact ⟨rfl, rfl, rfl⟩
    | there k _ _ => exact absurd k h
    | full k _ _ => exact absurd k h
    | new k _ _ => exact absurd k h
  | there h i hi => cases k with
    | bad k => exact absurd h k
    | there _ j hj =>
      have := ((List.getElem?_inj (List.getElem?_eq_some_iff.1 hi).1 hn).1 (hi.trans hj.symm))
      subst this; exact ⟨rfl, rfl, rfl⟩
    | full _ k _ => exact absurd (List.mem_of_getElem? hi) k
    | new _ k _ => exact absurd (List.mem_of_getElem? hi) k
  | full h h1 h2 => cases k with
    | bad k => exact absurd h k
    | there _ j hj => exact absurd (List.mem_of_getElem? hj) h1
    | full _ _ _ => exact ⟨rfl, rfl, rfl⟩
    | new _ _ k => omega
  | new h h1 h2 => cases k with
    | bad k => exact absurd h k
    | there _ j hj => exact absurd (List.mem_of_getElem? hj) h1
    | full _ _ k => omega
    | new _ _ _ => exact ⟨rfl, rfl, rfl⟩
/-- the texts behind a line of Adds -/
noncomputable def adds (m : Nat) (ss l : List ByteArray) : List ByteArray := l.foldl (addF m) ss
theorem adds_snoc (m : Nat) (ss l : List ByteArray) (j : Nat) (hj : j < l.length) : adds m ss (l.take (j + 1)) = addF m (adds m ss (l.take j)) (rdOf ByteArray.empty l (j : Int)) := by
  unfold adds rdOf
  rw [List.take_succ_eq_append_getElem hj, List.foldl_append]
  simp [List.getD_eq_getElem?_getD, List.getElem?_eq_getElem hj]
theorem addF_le (m : Nat) (ss : List ByteArray) (s : ByteArray) : ss <+: addF m ss s := by
  unfold addF
  split
  · exact List.prefix_refl _
  · split
    · exact List.prefix_refl _
    · split
      · exact List.prefix_refl _
      · exact List.prefix_append _ _
theorem adds_le (m : Nat) (ss l : List ByteArray) : ss <+: adds m ss l := by
  unfold adds
  induction l generalizing ss with
  | nil => exact List.prefix_refl _
  | cons x l ih => exact (addF_le m ss x).trans (ih _)
theorem Good.addF {m : Nat} {ss : List ByteArray} (h : Good m ss) (s : ByteArray) : Good m (addF m ss s) := by
  unfold Sym.addF
  split
  · exact h
  · rename_i h1
    split
    · exact h
    · rename_i h2
      split
      · exact h
      · rename_i h3
        refine ⟨nodup_snoc h.nodup h2, fun t ht => ?_, by simp; omega, h.cap⟩
        rcases List.mem_append.1 ht with k | k
        · exact h.fits t k
        · simp at k; subst k; exact Classical.not_not.1 h1
theorem Good.adds {m : Nat} {ss : List ByteArray} (h : Good m ss) (l : List ByteArray) : Good m (adds m ss l) := by
  unfold Sym.adds
  induction l generalizing ss with
  | nil => exact h
  | cons x l ih => exact ih (h.addF x)
end Go.Proofs.Ytcnjdgafemgaeaa.Sym
