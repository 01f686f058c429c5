/- The law WordModular over numbers alone: of any line of sums, differences and products, wrapped at every step or at the end alone, the law's plain form answers true; and the row's opening of a slice of steps.
Conditions: none. -/
import Derived.Test.YtcnjdgafemgaeaaPWordModularx1
import Derived.Deep.Slices
namespace Go.Proofs.Ytcnjdgafemgaeaa.Modular
open Go.RowKit Go.Proofs.Ytcnjdgafemgaeaa.PWordModular Go.Proofs.YtcnjdgafemgaeaaW.PrintWords Go.Proofs.YtcnjdgafemgaeaaW.PrintLast Go.Proofs.YtcnjdgafemgaeaaW.PrintMore

/-- a number brought into 31 bits, with its sign -/
def w31 (n : Int) : Int := (n + 1073741824) % 2147483648 - 1073741824
theorem wrapIs (n : Int) : word_Wrap.f n = some (w31 n) := by
  unfold word_Wrap.f w31 wrap64; congr 1; omega
def inR (n : Int) : Prop := -1073741824 ≤ n ∧ n ≤ 1073741823
instance (n : Int) : Decidable (inR n) := by unfold inR; infer_instance
theorem inIs (n : Int) : word_in.f n = some (decide (inR n)) := by
  unfold word_in.f inR; by_cases h : n ≥ -1073741824 <;> simp [h] <;> omega
theorem w31_in (x : Int) : inR (w31 x) := by unfold inR w31; omega
theorem w31_wrap (x : Int) : w31 (wrap64 x) = w31 x := by unfold w31 wrap64; omega
theorem w31_self {x : Int} (h : inR x) : w31 x = x := by unfold inR at h; unfold w31; omega
theorem doneIs (a b n : Int) (h : inR a) (g : inR b) : word_done.f a b n = some (w31 n, 0) := by
  unfold word_done.f; simp [inIs, wrapIs, h, g]
theorem tmodFacts (n : Int) : (0 ≤ n → 0 ≤ n.tmod 2147483648) ∧ (n ≤ 0 → n.tmod 2147483648 ≤ 0) ∧ -2147483648 < n.tmod 2147483648 ∧ n.tmod 2147483648 < 2147483648 := by
  refine ⟨Int.tmod_nonneg _, fun h => ?_, Int.lt_tmod_of_pos n (by omega), Int.tmod_lt_of_pos n (by omega)⟩
  have := Int.tmod_nonneg (a := -n) 2147483648 (by omega)
  rw [Int.neg_tmod] at this; omega
theorem rangedIs (k : Nat) (n : Int) : ∃ r, kilnlaw1_ranged.f (k + 1) n = some r ∧ inR r := by
  unfold kilnlaw1_ranged.f kilnlaw1_clipped.f
  have e : wrap64 (wrap64 (1073741823 - -1073741824) + 1) = 2147483648 := by unfold wrap64; omega
  obtain ⟨f2, f3, f4, f5⟩ := tmodFacts n
  generalize hm : n.tmod 2147483648 = m at *
  by_cases h : n ≥ -1073741824
  · by_cases g : n ≤ 1073741823
    · exact ⟨n, by simp [h, g, kilnlaw1_clipped.j0], h, g⟩
    · simp only [h, g, if_true, decide_false, kilnlaw1_clipped.j0, Bool.false_eq_true, if_false, e, hm]
      rw [if_neg (by omega), if_neg (by omega)]
      exact ⟨_, rfl, by unfold inR wrap64; omega⟩
  · simp only [h, if_false, kilnlaw1_clipped.j0, Bool.false_eq_true, e, hm]
    rw [if_neg (by omega)]
    by_cases c : m < 0
    · rw [if_pos c]; exact ⟨_, rfl, by unfold inR wrap64; omega⟩
    · rw [if_neg c]; exact ⟨_, rfl, by unfold inR wrap64; omega⟩

theorem tmod_zero {n : Int} (h : n % 2147483648 = 0) : n.tmod 2147483648 = 0 :=
  Int.tmod_eq_zero_of_dvd (Int.dvd_of_emod_eq_zero h)
theorem lessIs (whole : Int) : Int.tmod (wrap64 (whole - w31 whole)) 2147483648 = 0 := by
  apply tmod_zero; unfold w31 wrap64; omega
theorem addStep (whole b : Int) : w31 (wrap64 (w31 whole + b)) = w31 (wrap64 (whole + b)) := by unfold w31 wrap64; omega
theorem subStep (whole b : Int) : w31 (wrap64 (w31 whole - b)) = w31 (wrap64 (whole - b)) := by unfold w31 wrap64; omega
theorem mulStep (whole b : Int) : w31 (wrap64 (w31 whole * b)) = w31 (wrap64 (whole * b)) := by
  obtain ⟨c, hc⟩ : ∃ c, w31 whole = whole - 2147483648 * c := ⟨(whole + 1073741824) / 2147483648, by unfold w31; omega⟩
  rw [w31_wrap, w31_wrap, hc, Int.sub_mul, Int.mul_assoc]
  generalize c * b = d; generalize whole * b = e; unfold w31; omega
theorem addIs (a b : Int) (h : inR a) (g : inR b) : word_Add.f a b = some (w31 (wrap64 (a + b)), 0) := by unfold word_Add.f; rw [doneIs _ _ _ h g]; rfl
theorem subIs (a b : Int) (h : inR a) (g : inR b) : word_Sub.f a b = some (w31 (wrap64 (a - b)), 0) := by unfold word_Sub.f; rw [doneIs _ _ _ h g]; rfl
theorem mulIs (a b : Int) (h : inR a) (g : inR b) : word_Mul.f a b = some (w31 (wrap64 (a * b)), 0) := by unfold word_Mul.f; rw [doneIs _ _ _ h g]; rfl

theorem loopIs (l : List S25) (hl : l.length ≤ 9223372036854775807) (d : Nat) : ∀ (k i : Nat) (whole : Int), i ≤ l.length → l.length - i = d → kilnlaw1_WordModular.l0 (2 * d + 1 + k) l (w31 whole) whole (i : Int) = some true := by
  induction d with
  | zero =>
    intro k i whole hi hd
    rw [show 2 * 0 + 1 + k = k + 1 by omega]
    simp only [kilnlaw1_WordModular.l0]
    rw [if_neg (by omega), addIs 1 2 (by unfold inR; omega) (by unfold inR; omega)]
    simp only [Option.bind_some, wrapIs, if_true, kilnlaw1_num.f]
    rw [if_pos (lessIs whole)]
    rw [show w31 (wrap64 (1 + 2)) = 3 by unfold w31 wrap64; omega]; rfl
  | succ d ih =>
    intro k i whole hi hd
    rw [show 2 * (d + 1) + 1 + k = (2 * d + 1 + k + 1) + 1 by omega]
    simp only [kilnlaw1_WordModular.l0]
    rw [if_pos (by omega), if_pos (by omega)]
    obtain ⟨b, hb, hr⟩ := rangedIs (2 * d + 1 + k) (rd_T25 l (i : Int)).f1
    rw [hb]
    simp only [Option.bind_some, addIs _ _ (w31_in whole) hr, subIs _ _ (w31_in whole) hr, mulIs _ _ (w31_in whole) hr]
    have hi1 : wrap64 ((i : Int) + 1) = ((i + 1 : Nat) : Int) := by unfold wrap64; omega
    have next : ∀ whole', kilnlaw1_WordModular.j1 (2 * d + 1 + k + 1) l (w31 whole') whole' (i : Int) 0 = some true := by
      intro whole'
      simp only [kilnlaw1_WordModular.j1, kilnlaw1_num.f, Option.bind_some, if_true, wrapIs]
      rw [hi1]
      exact ih k (i + 1) whole' (by omega) (by omega)
    have nextw : ∀ whole', kilnlaw1_WordModular.j1 (2 * d + 1 + k + 1) l (w31 (wrap64 whole')) (wrap64 whole') (i : Int) 0 = some true := fun whole' => next (wrap64 whole')
    by_cases c0 : (rd_T25 l (i : Int)).f0 = 0
    · rw [if_pos c0, addStep]; exact nextw _
    · rw [if_neg c0]
      by_cases c1 : (rd_T25 l (i : Int)).f0 = 1
      · rw [if_pos c1, subStep]; exact nextw _
      · rw [if_neg c1]
        by_cases c2 : (rd_T25 l (i : Int)).f0 = 2
        · rw [if_pos c2, mulStep]; exact nextw _
        · rw [if_neg c2]; exact next whole

theorem pure_ (a : Int) (l : List S25) (hl : l.length ≤ 9223372036854775807) : ∃ k, kilnlaw1_WordModular.f k a l = some true := by
  refine ⟨2 * l.length + 1 + 1, ?_⟩
  obtain ⟨r, h, hr⟩ := rangedIs (2 * l.length + 1) a
  unfold kilnlaw1_WordModular.f
  rw [h]
  simp only [Option.bind_some]
  have := loopIs l hl l.length 1 0 r (by omega) (by omega)
  rw [w31_self hr] at this
  exact this

/-- things chosen place by place, as a list -/
theorem list_of {α : Type} {p : Nat → α → Prop} : ∀ n : Nat, (∀ i, i < n → ∃ x, p i x) → ∃ l : List α, l.length = n ∧ ∀ i x, l[i]? = some x → p i x
  | 0, _ => ⟨[], rfl, fun i x h => by simp at h⟩
  | n + 1, h => by
    obtain ⟨l, hl, hp⟩ := list_of n (fun i hi => h i (by omega))
    obtain ⟨x, hx⟩ := h n (by omega)
    refine ⟨l ++ [x], by simp [hl], fun i y hy => ?_⟩
    by_cases hi : i < n
    · rw [List.getElem?_append_left (by omega)] at hy; exact hp i y hy
    · have hlt := (List.getElem?_eq_some_iff.1 hy).1
      simp at hlt
      obtain rfl : i = n := by omega
      rw [List.getElem?_append_right (by omega)] at hy
      simp [hl] at hy
      exact hy ▸ hx

/-- a slice of steps, opened -/
theorem open_steps {H : Type} {enc : TypeId × Value → H} {w : World} {base : Nat} {spare : Nat → Bool} {held : Bool} {A : Option Addr} {len cap : Nat} {d : DataW H} {p : List MemPlace}
    (h : DataW.Trod enc Try.prog w base spare held 22 (.slice A len cap) d p) : ∃ l : List S25, l.length = len ∧ Kd.C k25 w A l.length l ∧ l.length ≤ cap := by
  obtain ⟨fuel, hf⟩ := h
  rcases Go.Deep.open_slice Try.underlying22 (by simpa [Value.cells] using hf) with ⟨hcs, _⟩ | ⟨a, len', cap', m, n, D, Pl, hcs, _, hl, hm, hmm, _, hx⟩
  · simp at hcs
    obtain ⟨rfl, rfl, rfl⟩ := hcs
    exact ⟨[], rfl, Kd.C_nil _ _, Nat.le_refl _⟩
  · simp at hcs
    obtain ⟨rfl, rfl, rfl⟩ := hcs
    have hcells : Try.prog.cellsOf 25 = 2 := by kernel_rfl
    have hone : Try.prog.cellsOf 3 = 1 := by kernel_rfl
    rw [hcells] at hx
    have hlm : len ≤ m := by rw [hmm]; split <;> omega
    obtain ⟨l, hll, hp⟩ := list_of (p := fun i (x : S25) => ∀ j u, [Value.int .i64 x.f0, Value.int .i64 x.f1][j]? = some u → w.cell? (a.add (i * 2 + j)) = some u) len (fun i hi => by
      obtain ⟨cs', hc, ht⟩ := hx i (by omega)
      obtain ⟨_, hlen, hat⟩ := World.cells?_some hc
      obtain ⟨ys, n', _, _, _, hys, hg⟩ := DataW.trod_struct Try.underlying25 ht
      match cs', hlen with
      | [c0, c1], _ =>
        have g0 := hg 0 _ rfl
        have g1 := hg 1 _ rfl
        match ys, hys with
        | [y0, y1], _ =>
          simp [hone] at g0 g1
          obtain ⟨x0, e0, _, _⟩ := DataW.trod_int Try.underlying3 g0
          obtain ⟨x1, e1, _, _⟩ := DataW.trod_int Try.underlying3 g1
          simp at e0 e1
          subst e0 e1
          refine ⟨⟨x0, x1⟩, fun j u hu => ?_⟩
          have hj : j < 2 := by have := (List.getElem?_eq_some_iff.1 hu).1; simpa using this
          have := hat j hj
          rw [add_add] at this
          rw [this]; exact hu)
    refine ⟨l, hll, ⟨rfl, by unfold maxLen at hm; omega, fun hn => ⟨a, rfl, fun j x hj => ⟨[.int .i64 x.f0, .int .i64 x.f1], rfl, k25_mk w x, fun i u hu => ?_⟩⟩⟩, by omega⟩
    exact hp j x hj i u hu

theorem modular_walk (a : Int) (A : Option Addr) (len cap : Nat) (l : List S25) (w : World) (hl : l.length = len) (hc : Kd.C k25 w A l.length l) (hcap : l.length ≤ cap) :
    Calls Try.prog 3 #[.int .i64 a, .slice A len cap] w fun e w' => e = .returned (.bool true) ∧ Below w.heap.size w w' := by
  subst hl
  obtain ⟨k, h⟩ := pure_ a l (Kd.C_max hc)
  exact (kilnlaw1_WordModular.calls k a A cap l true w hc hcap h).mono fun e w' h => ⟨h.1, h.2.below⟩
end Go.Proofs.Ytcnjdgafemgaeaa.Modular
