/- A region that draws its order, by facts: each operation's value has a fact that all that comes later keeps. Conditions: those that each theorem states. -/
import Derived.OrdersHeld
import Derived.RegionTactic
import Derived.Deep.RegionHeld3
import Derived.RowKit
import Derived.Below
namespace Go.Proofs.YtkfjjmmpbfjhaaaGreatDoor.Facts
open Go.RowKit
set_option linter.unusedVariables false
set_option linter.unusedSimpArgs false
/-- a fact of a value, by epochs (how many writers have run); kept where nothing that is there is written -/
structure Fact where
  f : Nat → Value → World → Prop
  mono : ∀ e v w w', f e v w → Below w.heap.size w w' → f e v w'
def Fact.eq (v : Value) : Fact := ⟨fun _ x _ => x = v, fun _ _ _ _ h _ => h⟩
def Fact.none : Fact := ⟨fun _ _ _ => True, fun _ _ _ _ _ _ => trivial⟩
instance : Inhabited Fact := ⟨Fact.none⟩
def maskOf (acc : List Nat) (o : Oper) : Nat := o.after.toList.foldl (fun s e => if Region.binds .any e then s ||| (2 ^ e.on ||| acc.getD e.on 0) else s) 0
def masks : List Oper → List Nat → List Nat
  | [], acc => acc
  | o :: r, acc => masks r (acc ++ [maskOf acc o])
def bef (l : List Oper) (i j : Nat) : Bool := decide (j < i) && ((masks l []).getD i 0).testBit j
def valAt (l : List Oper) (a : Act) (i : Nat) : Value :=
  match l[i]? with
  | some o => (match o.dst with | some d => a.tmps.getD d undef | Option.none => undef)
  | Option.none => undef
def edgesB (l : List Oper) : Bool := (List.range l.length).all fun i => match l[i]? with
  | some o => o.after.toList.all fun e => !Region.binds .any e || decide (e.on < i)
  | Option.none => true
def fixB (l : List Oper) (i t : Nat) : Bool := (List.range l.length).all fun j => (match l[j]? with | some o => o.dst != some t | Option.none => true) || j == i || bef l j i
def distinctB : List Nat → Bool
  | [] => true
  | x :: r => !r.contains x && distinctB r
def wellB (l : List Oper) (ws : List Nat) (n : Nat) : Bool := l.length == n && edgesB l && distinctB (l.filterMap (·.dst)) && distinctB ws && ws.all (fun d => decide (d < l.length))
def epoch (ws : List Nat) (listed : Array Bool) : Nat := (ws.filter fun i => listed.getD i false).length
def lo (l : List Oper) (ws : List Nat) (i : Nat) : Nat := (ws.filter fun d => bef l i d).length
def hi (l : List Oper) (ws : List Nat) (i : Nat) : Nat := (ws.filter fun d => d != i && !bef l d i).length
/-- what is asked of an operation that writes nothing that is there -/
def Obl (P : Program) (Q : Exit → Act → World → Prop) (l : List Oper) (ws : List Nat) (G : Nat → World → Prop) (φs : List Fact) (a0 : Act) (i : Nat) (o : Oper) (φ : Fact) : Prop :=
  ∀ (e : Nat) (a : Act) (w : World) (K : Act → World → Prop), lo l ws i ≤ e → e ≤ hi l ws i → G e w → (∀ t, fixB l i t = true → a.tmps.getD t undef = a0.tmps.getD t undef) →
    (∀ j, bef l i j = true → (φs.getD j default).f e (valAt l a j) w) → Shut (∀ v w', φ.f e (o.dst.elim undef fun _ => v) w' → Below w.heap.size w w' → K (a.put o.dst v) w') →
    (if Region.wanted o (yielded l.toArray a.tmps) = true then Oper.wp P o a w K Q else K (a.put o.dst undef) w)
/-- what is asked of one that does -/
def OblW (P : Program) (Q : Exit → Act → World → Prop) (l : List Oper) (ws : List Nat) (G : Nat → World → Prop) (φs : List Fact) (a0 : Act) (i : Nat) (o : Oper) (φ : Fact) : Prop :=
  ∀ (e : Nat) (a : Act) (w : World) (K : Act → World → Prop), lo l ws i ≤ e → e ≤ hi l ws i → G e w → (∀ t, fixB l i t = true → a.tmps.getD t undef = a0.tmps.getD t undef) →
    (∀ j, bef l i j = true → (φs.getD j default).f e (valAt l a j) w) →
    Shut (∀ v w', φ.f (e + 1) (o.dst.elim undef fun _ => v) w' → G (e + 1) w' → (∀ j, j < l.length → j ≠ i → bef l j i = false → ∀ x, (φs.getD j default).f e x w → (φs.getD j default).f (e + 1) x w') → K (a.put o.dst v) w') →
    (if Region.wanted o (yielded l.toArray a.tmps) = true then Oper.wp P o a w K Q else K (a.put o.dst undef) w)
def Ask (P : Program) (Q : Exit → Act → World → Prop) (l : List Oper) (ws : List Nat) (G : Nat → World → Prop) (φs : List Fact) (a0 : Act) (i : Nat) (o : Oper) (φ : Fact) : Prop :=
  if ws.contains i then OblW P Q l ws G φs a0 i o φ else Obl P Q l ws G φs a0 i o φ
def Asks (P : Program) (Q : Exit → Act → World → Prop) (l : List Oper) (ws : List Nat) (G : Nat → World → Prop) (φs : List Fact) (a0 : Act) : Nat → List Oper → List Fact → Prop
  | i, o :: r, φ :: s => Ask P Q l ws G φs a0 i o φ ∧ Asks P Q l ws G φs a0 (i + 1) r s
  | _, _, _ => True
def Fin (Q : Exit → Act → World → Prop) (e : Nat) (w : World) : List Oper → List Fact → Act → Prop
  | o :: r, φ :: s, a => ∀ v, φ.f e v w → Fin Q e w r s (a.put o.dst v)
  | _, _, a => Q .normal a w
variable {P : Program} {Q : Exit → Act → World → Prop} {l : List Oper} {ws : List Nat} {G : Nat → World → Prop} {φs : List Fact} {a0 : Act}
theorem asks_at : ∀ (i : Nat) (r : List Oper) (s : List Fact), r.length = s.length → Asks P Q l ws G φs a0 i r s → ∀ k o φ, r[k]? = some o → s[k]? = some φ → Ask P Q l ws G φs a0 (i + k) o φ
  | i, [], s, _, _, k, o, φ, h, _ => by simp at h
  | i, o' :: r, [], hl, _, k, o, φ, h, h2 => by simp at h2
  | i, o' :: r, φ' :: s, hl, h, 0, o, φ, h1, h2 => by
    simp at h1 h2; subst h1 h2; exact h.1
  | i, o' :: r, φ' :: s, hl, h, k + 1, o, φ, h1, h2 => by
    have := asks_at (i + 1) r s (by simpa using hl) h.2 k o φ (by simpa using h1) (by simpa using h2)
    rw [show i + (k + 1) = i + 1 + k by omega]; exact this
theorem testBit_mask (acc : List Nat) (es : List Edge) : ∀ (s : Nat) (j : Nat), (es.foldl (fun s e => if Region.binds .any e then s ||| (2 ^ e.on ||| acc.getD e.on 0) else s) s).testBit j = true → s.testBit j = true ∨ ∃ e ∈ es, Region.binds .any e = true ∧ (e.on = j ∨ (acc.getD e.on 0).testBit j = true) := by
  induction es with
  | nil => intro s j h; exact .inl h
  | cons e es ih =>
    intro s j h
    rw [List.foldl_cons] at h
    rcases ih _ _ h with h | ⟨e', he', h'⟩
    · by_cases hb : Region.binds .any e = true
      · rw [if_pos hb, Nat.testBit_or, Nat.testBit_or, Bool.or_eq_true, Bool.or_eq_true] at h
        rcases h with h | h | h
        · exact .inl h
        · refine .inr ⟨e, List.mem_cons_self, hb, .inl ?_⟩
          rw [Nat.testBit_two_pow] at h
          simpa using h
        · exact .inr ⟨e, List.mem_cons_self, hb, .inr h⟩
      · rw [if_neg hb] at h; exact .inl h
    · exact .inr ⟨e', List.mem_cons_of_mem _ he', h'⟩
/-- closed under what comes ahead -/
def Closed (l : List Oper) (L : Nat → Prop) : Prop := ∀ i o, l[i]? = some o → L i → ∀ e ∈ o.after, Region.binds .any e = true → L e.on
theorem masks_closed {L : Nat → Prop} : ∀ (r : List Oper) (acc : List Nat) (pre : List Oper), pre.length = acc.length → l = pre ++ r → Closed l L →
    (∀ i j, (acc.getD i 0).testBit j = true → L i → L j) → ∀ i j, ((masks r acc).getD i 0).testBit j = true → L i → L j
  | [], acc, pre, _, _, _, h, i, j, hb, hi => h i j hb hi
  | o :: r, acc, pre, hp, hl, hc, h, i, j, hb, hi => by
    refine masks_closed r (acc ++ [maskOf acc o]) (pre ++ [o]) (by simp [hp]) (by simp [hl]) hc ?_ i j hb hi
    intro i j hb hi
    rcases Nat.lt_trichotomy i acc.length with hlt | he | hgt
    · rw [List.getD_eq_getElem?_getD, List.getElem?_append_left hlt, ← List.getD_eq_getElem?_getD] at hb
      exact h i j hb hi
    · subst he
      rw [List.getD_eq_getElem?_getD, List.getElem?_append_right (Nat.le_refl _), Nat.sub_self] at hb
      simp only [List.getElem?_cons_zero, Option.getD_some] at hb
      have ho : l[acc.length]? = some o := by rw [hl, ← hp, List.getElem?_append_right (Nat.le_refl _), Nat.sub_self]; rfl
      rcases testBit_mask acc o.after.toList 0 j hb with h0 | ⟨e, he, hbind, h1⟩
      · simp at h0
      · have hL : L e.on := hc _ _ ho hi e (by simpa using he) hbind
        rcases h1 with rfl | h1
        · exact hL
        · exact h _ _ h1 hL
    · rw [List.getD_eq_getElem?_getD, List.getElem?_eq_none (by simp; omega)] at hb
      simp at hb
theorem bef_closed {L : Nat → Prop} (hc : Closed l L) {i j : Nat} (h : bef l i j = true) (hi : L i) : L j :=
  masks_closed l [] [] rfl rfl hc (fun i j h => by simp at h) i j (by simp only [bef, Bool.and_eq_true] at h; exact h.2) hi
theorem bef_lt {i j : Nat} (h : bef l i j = true) : j < i := by simp only [bef, Bool.and_eq_true, decide_eq_true_eq] at h; exact h.1
structure St (l : List Oper) (ws : List Nat) (G : Nat → World → Prop) (φs : List Fact) (a0 : Act) (listed : Array Bool) (a : Act) (w : World) : Prop where
  size : listed.size = l.length
  closed : Closed l (fun i => listed.getD i false = true)
  glob : G (epoch ws listed) w
  defers : a.defers = a0.defers
  tsize : a.tmps.size = a0.tmps.size
  fix : ∀ t, (∀ i o, l[i]? = some o → listed.getD i false = true → o.dst ≠ some t) → a.tmps.getD t undef = a0.tmps.getD t undef
  facts : ∀ i, listed.getD i false = true → (φs.getD i default).f (epoch ws listed) (valAt l a i) w
theorem distinct_spec : ∀ (xs : List Nat), distinctB xs = true → xs.Nodup
  | [], _ => List.nodup_nil
  | x :: r, h => by
    simp only [distinctB, Bool.and_eq_true, Bool.not_eq_true', List.contains_eq_mem, decide_eq_false_iff_not] at h
    exact List.nodup_cons.2 ⟨h.1, distinct_spec r h.2⟩
theorem dst_unique : ∀ (l : List Oper), (l.filterMap (·.dst)).Nodup → ∀ (i j : Nat) (oi oj : Oper) (t : Tmp), l[i]? = some oi → l[j]? = some oj → oi.dst = some t → oj.dst = some t → i = j
  | [], _, i, j, oi, oj, t, h, _, _, _ => by simp at h
  | o :: r, hn, i, j, oi, oj, t, hi, hj, di, dj => by
    cases ho : o.dst with
    | none =>
      rw [List.filterMap_cons, ho] at hn
      cases i with
      | zero => simp at hi; subst hi; rw [ho] at di; cases di
      | succ i =>
        cases j with
        | zero => simp at hj; subst hj; rw [ho] at dj; cases dj
        | succ j => rw [dst_unique r hn i j oi oj t (by simpa using hi) (by simpa using hj) di dj]
    | some d =>
      rw [List.filterMap_cons, ho] at hn
      obtain ⟨h1, h2⟩ := List.nodup_cons.1 hn
      have hnot : ∀ (k : Nat) (ok : Oper), r[k]? = some ok → ok.dst ≠ some d := fun k ok hk e => h1 (List.mem_filterMap.2 ⟨ok, List.mem_of_getElem? hk, e⟩)
      cases i with
      | zero =>
        cases j with
        | zero => rfl
        | succ j =>
          simp at hi hj; subst hi
          rw [ho] at di; cases di
          exact absurd dj (hnot j oj hj)
      | succ i =>
        cases j with
        | zero =>
          simp at hi hj; subst hj
          rw [ho] at dj; cases dj
          exact absurd di (hnot i oi hi)
        | succ j => rw [dst_unique r h2 i j oi oj t (by simpa using hi) (by simpa using hj) di dj]
theorem valAt_put {a : Act} {i j : Nat} {oi : Oper} {v : Value} (hn : (l.filterMap (·.dst)).Nodup) (hi : l[i]? = some oi) (hij : i ≠ j) : valAt l (a.put oi.dst v) j = valAt l a j := by
  unfold valAt
  cases hj : l[j]? with
  | none => rfl
  | some oj =>
    dsimp only
    cases hd : oj.dst with
    | none => rfl
    | some d =>
      cases hdi : oi.dst with
      | none => rfl
      | some d' =>
        have hne : d' ≠ d := fun e => hij (dst_unique l hn i j oi oj d hi hj (by rw [hdi, e]) hd)
        simp [Act.put, Array.getElem?_setIfInBounds_ne hne]
theorem valAt_self {a : Act} {i : Nat} {oi : Oper} {v : Value} (hi : l[i]? = some oi) (hs : ∀ d, oi.dst = some d → d < a.tmps.size) : valAt l (a.put oi.dst v) i = oi.dst.elim undef fun _ => v := by
  unfold valAt
  rw [hi]
  dsimp only
  cases hd : oi.dst with
  | none => rfl
  | some d => simp [Act.put, hs d hd]
theorem put_size {a : Act} {d : Option Tmp} {v : Value} : (a.put d v).tmps.size = a.tmps.size := by cases d <;> simp [Act.put]
theorem put_defers {a : Act} {d : Option Tmp} {v : Value} : (a.put d v).defers = a.defers := by cases d <;> rfl
theorem filter_set (ws : List Nat) (listed : Array Bool) (i : Nat) (hlt : i < listed.size) (hl : listed.getD i false = false) (hn : ws.Nodup) :
    epoch ws (listed.setIfInBounds i true) = epoch ws listed + (if ws.contains i then 1 else 0) := by
  unfold epoch
  induction ws with
  | nil => simp
  | cons x r ih =>
    obtain ⟨h1, h2⟩ := List.nodup_cons.1 hn
    have ih := ih h2
    by_cases hx : x = i
    · subst hx
      have hr : r.filter (fun k => (listed.setIfInBounds x true).getD k false) = r.filter (fun k => listed.getD k false) := List.filter_congr fun k hk => by
        rw [getD_set_ne false (fun (e : x = k) => h1 (by rw [e]; exact hk))]
      rw [List.filter_cons, List.filter_cons, hr, hl]
      simp [hlt]
    · rw [List.filter_cons, List.filter_cons, getD_set_ne false (Ne.symm hx)]
      have hc : (x :: r).contains i = r.contains i := by simp [Ne.symm hx]
      rw [hc]
      by_cases hb : listed.getD x false = true
      · rw [if_pos hb, if_pos hb, List.length_cons, List.length_cons, ih]; omega
      · rw [if_neg hb, if_neg hb, ih]
theorem lo_le {listed : Array Bool} {i : Nat} (hb : ∀ d, bef l i d = true → listed.getD d false = true) : lo l ws i ≤ epoch ws listed := by
  unfold lo epoch
  induction ws with
  | nil => simp
  | cons x r ih =>
    rw [List.filter_cons, List.filter_cons]
    by_cases h : bef l i x = true
    · rw [if_pos h, if_pos (hb x h)]; simp only [List.length_cons]; omega
    · rw [if_neg h]; split
      · simp only [List.length_cons]; omega
      · exact ih
theorem le_hi {listed : Array Bool} {i : Nat} (hn : listed.getD i false = false) (hb : ∀ d, bef l d i = true → listed.getD d false = false) : epoch ws listed ≤ hi l ws i := by
  unfold hi epoch
  induction ws with
  | nil => simp
  | cons x r ih =>
    rw [List.filter_cons, List.filter_cons]
    by_cases h : listed.getD x false = true
    · have h1 : x ≠ i := fun e => by rw [e, hn] at h; cases h
      have h2 : bef l x i = false := by
        cases hx : bef l x i with
        | false => rfl
        | true => rw [hb x hx] at h; cases h
      rw [if_pos h, if_pos (by simp [h1, h2])]; simp only [List.length_cons]; omega
    · rw [if_neg h]; split
      · simp only [List.length_cons]; omega
      · exact ih
def left (listed : Array Bool) : Nat := (listed.toList.filter (! ·)).length
theorem left_set {listed : Array Bool} {i : Nat} (hlt : i < listed.size) (hf : listed.getD i false = false) : left listed = left (listed.setIfInBounds i true) + 1 := by
  unfold left
  rw [Array.toList_setIfInBounds]
  have h : listed.toList[i]? = some false := by
    have : listed[i]? = some (listed[i]) := Array.getElem?_eq_getElem hlt
    rw [Array.getD_eq_getD_getElem?, this, Option.getD_some] at hf
    rw [Array.getElem?_toList, this, hf]
  generalize listed.toList = xs at h
  clear hlt hf
  induction xs generalizing i with
  | nil => simp at h
  | cons x r ih =>
    cases i with
    | zero => simp at h; subst h; simp
    | succ i =>
      have := ih (by simpa using h)
      rw [List.set_cons_succ, List.filter_cons, List.filter_cons]
      split
      · simp only [List.length_cons, this]
      · exact this
theorem edges_spec (h : edgesB l = true) : ∀ i o, l[i]? = some o → ∀ e ∈ o.after, Region.binds .any e = true → e.on < i := by
  intro i o hi e he hb
  have hlt : i < l.length := (List.getElem?_eq_some_iff.1 hi).1
  have h1 := List.all_eq_true.1 h i (List.mem_range.2 hlt)
  simp only [hi] at h1
  have h2 := List.all_eq_true.1 h1 e (by simpa using he)
  simpa [hb] using h2
/-- where none is ready, all are listed -/
theorem all_listed {listed : Array Bool} (hw : edgesB l = true) (hs : listed.size = l.length) (hr : Region.ready .any l.toArray listed = []) : ∀ i, i < l.length → listed.getD i false = true := by
  intro i
  induction i using Nat.strongRecOn with
  | _ i ih =>
    intro hlt
    cases hb : listed.getD i false with
    | true => rfl
    | false =>
      have ho : l[i]? = some l[i] := List.getElem?_eq_getElem hlt
      have hm : i ∈ Region.ready .any l.toArray listed := by
        rw [mem_ready]
        refine ⟨?_, l[i], by simp, fun e he hbind => ?_⟩
        · rw [Array.getD_eq_getD_getElem?, Array.getElem?_eq_getElem (by omega)] at hb ⊢; exact hb
        · have := edges_spec hw i l[i] ho e he hbind
          exact ih e.on this (by omega)
      rw [hr] at hm; cases hm
theorem fin_act {e : Nat} {w : World} {a : Act} : ∀ (r : List Oper) (s : List Fact) (i : Nat) (b : Act), r.length = s.length → (∀ (k : Nat) (o : Oper), r[k]? = some o → l[i + k]? = some o) → (∀ (k : Nat) (φ : Fact), s[k]? = some φ → φ.f e (valAt l a (i + k)) w) →
    b.tmps.size = a.tmps.size → b.defers = a.defers → (∀ t, (∀ (k : Nat) (o : Oper), r[k]? = some o → o.dst ≠ some t) → b.tmps.getD t undef = a.tmps.getD t undef) → Fin Q e w r s b → Q .normal a w
  | [], [], i, b, _, _, _, hs, hd, ht, h => by
    have : b = a := by
      cases b with
      | mk bt bd =>
        cases a with
        | mk ta da =>
          simp only at hs hd ht
          subst hd
          congr 1
          refine Array.ext hs (fun k h1 h2 => ?_)
          have := ht k (fun k o h => by simp at h)
          simpa [Array.getD_eq_getD_getElem?, h1, h2] using this
    subst this
    exact h
  | [], _ :: _, _, _, h, _, _, _, _, _, _ => by simp at h
  | _ :: _, [], _, _, h, _, _, _, _, _, _ => by simp at h
  | o :: r, φ :: s, i, b, hl, hr, hφ, hs, hd, ht, h => by
    have hi : l[i]? = some o := hr 0 o rfl
    have hv := hφ 0 φ rfl
    refine fin_act r s (i + 1) (b.put o.dst (valAt l a i)) (by simpa using hl) (fun k o' hk => by rw [show i + 1 + k = i + (k + 1) by omega]; exact hr (k + 1) o' (by simpa using hk)) (fun k φ' hk => by rw [show i + 1 + k = i + (k + 1) by omega]; exact hφ (k + 1) φ' (by simpa using hk)) (by rw [put_size, hs]) (by rw [put_defers, hd]) ?_ (h _ hv)
    intro t hnot
    by_cases hdt : o.dst = some t
    · have hva : valAt l a i = a.tmps.getD t undef := by unfold valAt; rw [hi]; dsimp only; rw [hdt]
      rw [hva, hdt]
      by_cases hlt : t < b.tmps.size
      · simp [Act.put, hlt]
      · have h2 : ¬ t < a.tmps.size := by rw [← hs]; exact hlt
        simp [Act.put, hlt, h2]
    · rw [← ht t (fun k o' hk => by
        cases k with
        | zero => simp at hk; subst hk; exact hdt
        | succ k => exact hnot k o' (by simpa using hk))]
      cases hd' : o.dst with
      | none => rfl
      | some d =>
        have hne : d ≠ t := fun e => hdt (by rw [hd', e])
        simp [Act.put, Array.getElem?_setIfInBounds_ne hne]
theorem closed_set {listed : Array Bool} {i : Nat} (h : Closed l (fun i => listed.getD i false = true)) (hi : i ∈ Region.ready .any l.toArray listed) : Closed l (fun k => (listed.setIfInBounds i true).getD k false = true) := by
  obtain ⟨_, oi, hoi, hall⟩ := mem_ready.1 hi
  intro k ok hk hl e he hb
  by_cases hik : i = k
  · subst hik
    have : ok = oi := by
      have h1 : l.toArray[i]? = some ok := by rw [List.getElem?_toArray]; exact hk
      exact Option.some.inj (h1.symm.trans hoi)
    subst this
    exact getD_set_true (hall e he hb)
  · have hl' : listed.getD k false = true := by rw [← getD_set_ne false hik]; exact hl
    exact getD_set_true (h k ok hk hl' e he hb)
theorem run_facts (hw : wellB l ws φs.length = true) (hdst : ∀ o ∈ l, ∀ d, o.dst = some d → d < a0.tmps.size) (hG : ∀ e w w', G e w → Below w.heap.size w w' → G e w') (hob : Asks P Q l ws G φs a0 0 l φs) (hfin : ∀ w, G ws.length w → Fin Q ws.length w l φs a0) :
    ∀ (fuel : Nat) (listed : Array Bool) (a : Act) (w : World), left listed ≤ fuel → St l ws G φs a0 listed a w → wpAny P .any l.toArray Q fuel listed a w := by
  simp only [wellB, Bool.and_eq_true, beq_iff_eq, List.all_eq_true, decide_eq_true_eq] at hw
  obtain ⟨⟨⟨⟨hlen, hedge⟩, hdis⟩, hws⟩, hwl⟩ := hw
  have hdn := distinct_spec _ hdis
  have hwn := distinct_spec _ hws
  have hend : ∀ (listed : Array Bool) (a : Act) (w : World), St l ws G φs a0 listed a w → Region.ready .any l.toArray listed = [] → Q .normal a w := by
    intro listed a w st hr
    have hall := all_listed hedge st.size hr
    have hep : epoch ws listed = ws.length := by
      unfold epoch
      rw [List.filter_eq_self.2 (fun d hd => hall d (hwl d hd))]
    have hg := st.glob
    rw [hep] at hg
    refine fin_act (l := l) l φs 0 a0 hlen (fun k o h => by simpa using h) (fun k φ hk => ?_) st.tsize.symm st.defers.symm ?_ (hfin w hg)
    · have hlt : k < l.length := by rw [hlen]; exact (List.getElem?_eq_some_iff.1 hk).1
      have := st.facts k (hall k hlt)
      rw [hep, List.getD_eq_getElem?_getD, hk] at this
      simpa using this
    · intro t ht
      exact (st.fix t (fun i o ho _ => ht i o ho)).symm
  intro fuel
  induction fuel with
  | zero =>
    intro listed a w hleft st
    have hr : Region.ready .any l.toArray listed = [] := by
      cases hr : Region.ready .any l.toArray listed with
      | nil => rfl
      | cons i r =>
        have hi : i ∈ Region.ready .any l.toArray listed := by rw [hr]; exact List.mem_cons_self
        obtain ⟨h1, o, ho, _⟩ := mem_ready.1 hi
        have hlt : i < listed.size := by rw [st.size]; have := (Array.getElem?_eq_some_iff.1 ho).1; simpa using this
        have h2 : listed.getD i false = false := by
          rw [Array.getD_eq_getD_getElem?, Array.getElem?_eq_getElem hlt] at h1 ⊢; exact h1
        have := left_set hlt h2
        omega
    exact ⟨hr, hend listed a w st hr⟩
  | succ fuel ih =>
    intro listed a w hleft st
    refine ⟨hend listed a w st, fun i hi => ?_⟩
    obtain ⟨h1, o, ho, hall⟩ := mem_ready.1 hi
    have hol : l[i]? = some o := by simpa using ho
    have hil : i < l.length := (List.getElem?_eq_some_iff.1 hol).1
    have hlt : i < listed.size := by rw [st.size]; exact hil
    have hf : listed.getD i false = false := by
      rw [Array.getD_eq_getD_getElem?, Array.getElem?_eq_getElem hlt] at h1 ⊢; exact h1
    have hleft' : left (listed.setIfInBounds i true) ≤ fuel := by have := left_set hlt hf; omega
    obtain ⟨φ, hφ⟩ : ∃ φ, φs[i]? = some φ := ⟨φs[i]'(by omega), List.getElem?_eq_getElem (by omega)⟩
    have hφd : φs.getD i default = φ := by rw [List.getD_eq_getElem?_getD, hφ]; rfl
    have hask := asks_at 0 l φs hlen hob i o φ hol hφ
    rw [Nat.zero_add] at hask
    have hpre : ∀ j, bef l i j = true → listed.getD j false = true := by
      intro j hj
      have hc : Closed l (fun k => listed.getD k false = true ∨ k = i) := by
        intro k ok hk hl e he hb
        rcases hl with hl | rfl
        · exact .inl (st.closed k ok hk hl e he hb)
        · rw [hol] at hk; cases hk
          exact .inl (hall e he hb)
      rcases bef_closed hc hj (.inr rfl) with h | h
      · exact h
      · have := bef_lt hj; omega
    have hpost : ∀ d, bef l d i = true → listed.getD d false = false := by
      intro d hd
      cases hb : listed.getD d false with
      | false => rfl
      | true => have := bef_closed st.closed hd hb; rw [hf] at this; cases this
    have hlo := lo_le (ws := ws) hpre
    have hhi := le_hi (ws := ws) hf hpost
    have hfix : ∀ t, fixB l i t = true → a.tmps.getD t undef = a0.tmps.getD t undef := by
      intro t ht
      refine st.fix t (fun k ok hk hkl => ?_)
      have := List.all_eq_true.1 ht k (List.mem_range.2 (List.getElem?_eq_some_iff.1 hk).1)
      simp only [hk, Bool.or_eq_true, bne_iff_ne, ne_eq, beq_iff_eq] at this
      rcases this with (h | h) | h
      · exact h
      · subst h; rw [hf] at hkl; cases hkl
      · have := hpost k h; rw [hkl] at this; cases this
    have hfacts : ∀ j, bef l i j = true → (φs.getD j default).f (epoch ws listed) (valAt l a j) w := fun j hj => st.facts j (hpre j hj)
    have hep := filter_set ws listed i hlt hf hwn
    have hsame : ∀ v, ∀ t, (∀ k ok, l[k]? = some ok → (listed.setIfInBounds i true).getD k false = true → ok.dst ≠ some t) → (a.put o.dst v).tmps.getD t undef = a0.tmps.getD t undef := by
      intro v t ht
      have hne := ht i o hol (by simp [hlt])
      rw [← st.fix t (fun k ok hk hkl => ht k ok hk (getD_set_true hkl))]
      cases hd : o.dst with
      | none => rfl
      | some d =>
        have : d ≠ t := fun e => hne (by rw [hd, e])
        simp [Act.put, Array.getElem?_setIfInBounds_ne this]
    have hsz : ∀ d, o.dst = some d → d < a.tmps.size := fun d hd => by rw [st.tsize]; exact hdst o (List.mem_of_getElem? hol) d hd
    refine wpOp_step ho (fun K hK => ?_)
    unfold Ask at hask
    by_cases hiw : ws.contains i = true
    · rw [if_pos hiw] at hask hep
      refine hask (epoch ws listed) a w K hlo hhi st.glob hfix hfacts (show ∀ v w', _ from fun v w' hv hg htr => hK _ _ (ih _ _ _ hleft' ?_))
      refine ⟨by simpa using st.size, closed_set st.closed hi, by rw [hep]; exact hg, by rw [put_defers, st.defers], by rw [put_size, st.tsize], hsame v, fun j hj => ?_⟩
      rw [hep]
      by_cases hij : i = j
      · subst hij
        rw [valAt_self hol hsz, hφd]; exact hv
      · rw [valAt_put hdn hol hij]
        have hj' : listed.getD j false = true := by rw [getD_set_ne false hij] at hj; exact hj
        refine htr j ?_ (Ne.symm hij) ?_ _ (st.facts j hj')
        · rcases Nat.lt_or_ge j listed.size with h | h
          · rw [← st.size]; exact h
          · simp [Array.getElem?_eq_none h] at hj'
        · cases hb : bef l j i with
          | false => rfl
          | true => have := hpost j hb; rw [hj'] at this; cases this
    · rw [if_neg hiw] at hask hep
      refine hask (epoch ws listed) a w K hlo hhi st.glob hfix hfacts (show ∀ v w', _ from fun v w' hv hb => hK _ _ (ih _ _ _ hleft' ?_))
      rw [Nat.add_zero] at hep
      refine ⟨by simpa using st.size, closed_set st.closed hi, by rw [hep]; exact hG _ _ _ st.glob hb, by rw [put_defers, st.defers], by rw [put_size, st.tsize], hsame v, fun j hj => ?_⟩
      rw [hep]
      by_cases hij : i = j
      · subst hij
        rw [valAt_self hol hsz, hφd]; exact hv
      · rw [valAt_put hdn hol hij]
        have hj' : listed.getD j false = true := by rw [getD_set_ne false hij] at hj; exact hj
        exact (φs.getD j default).mono _ _ _ _ (st.facts j hj') hb
def sizeB (l : List Oper) (n : Nat) : Bool := l.all fun o => match o.dst with | some d => decide (d < n) | Option.none => true
/-- THE REGION, BY FACTS. -/
theorem region_facts {id : Nat} {w0 : World} (ws : List Nat) (G : Nat → World → Prop) (φs : List Fact) (n m : Nat) (hm : P.follows .mixedOrders = true) (hw : wellB l ws n = true) (hn : φs.length = n) (hsz : a0.tmps.size = m) (hdst : sizeB l m = true)
    (hG : ∀ e w w', G e w → Below w.heap.size w w' → G e w') (h0 : G 0 w0.drew) (hob : Asks P Q l ws G φs a0 0 l φs) (hfin : ∀ w, G ws.length w → Fin Q ws.length w l φs a0) : (Code.region id l.toArray true).wp P Q a0 w0 := by
  subst hn
  subst hsz
  refine wp_region_any hm (run_facts hw ?_ hG hob hfin l.toArray.size _ a0 _ ?_ ?_)
  · intro o ho d hd
    have := List.all_eq_true.1 hdst o ho
    rw [hd] at this
    simpa using this
  · unfold left
    refine Nat.le_trans (List.length_filter_le _ _) ?_
    simp
  · have hno : ∀ i, (Array.replicate l.toArray.size false).getD i false = false := by
      intro i
      simp only [Array.getD_eq_getD_getElem?, Array.getElem?_replicate]
      split <;> rfl
    have he : epoch ws (Array.replicate l.toArray.size false) = 0 := by
      unfold epoch
      rw [List.filter_eq_nil_iff.2 (fun d _ => by rw [hno]; simp)]; rfl
    exact ⟨by simp, fun i o _ h => absurd (h.symm.trans (hno i)) (by decide), by rw [he]; exact h0, rfl, rfl, fun _ _ => rfl, fun i h => by rw [hno] at h; cases h⟩
/-- what an operation looks at: a slot as it was, or what another operation left -/
inductive Need where
  | fix (t : Tmp) (x : Value)
  | op (t : Tmp) (j : Nat) (φ : Fact)
def okN (l : List Oper) (φs : List Fact) (a0 : Act) (i : Nat) : List Need → Prop
  | [] => True
  | .fix t x :: r => (fixB l i t = true ∧ a0.tmps.getD t undef = x) ∧ okN l φs a0 i r
  | .op t j φ :: r => ((bef l i j && ((l[j]?).bind (·.dst) == some t)) = true ∧ φs.getD j default = φ) ∧ okN l φs a0 i r
def Has (e : Nat) (ρ : Operand → Value) (w : World) : List Need → Prop → Prop
  | [], R => R
  | .fix t x :: r, R => ρ (.tmp t) = x → Has e ρ w r R
  | .op t _ φ :: r, R => φ.f e (ρ (.tmp t)) w → Has e ρ w r R
theorem valAt_of {a : Act} {j : Nat} {t : Tmp} (h : (l[j]?).bind (·.dst) = some t) : valAt l a j = a.eval (.tmp t) := by
  unfold valAt Act.eval
  cases hj : l[j]? with
  | none => rw [hj] at h; cases h
  | some o =>
    rw [hj] at h
    have h' : o.dst = some t := h
    dsimp only
    rw [h']
theorem has_elim {i e : Nat} {a : Act} {w : World} {R : Prop} (hfix : ∀ t, fixB l i t = true → a.tmps.getD t undef = a0.tmps.getD t undef) (hpre : ∀ j, bef l i j = true → (φs.getD j default).f e (valAt l a j) w) :
    ∀ ns : List Need, okN l φs a0 i ns → Has e a.eval w ns R → R
  | [], _, h => h
  | .fix t x :: r, hok, h => has_elim hfix hpre r hok.2 (h (by rw [← hok.1.2, ← hfix t hok.1.1]; rfl))
  | .op t j φ :: r, hok, h => by
    have h1 := hok.1.1
    simp only [Bool.and_eq_true, beq_iff_eq] at h1
    refine has_elim hfix hpre r hok.2 (h ?_)
    have := hpre j h1.1
    rw [hok.1.2, valAt_of h1.2] at this
    exact this
/-- is it carried out -/
def On (l : List Oper) (φs : List Fact) (i : Nat) (o : Oper) : Prop := o.guard = Option.none ∨ ∃ g b, o.guard = some (g, b) ∧ bef l i g = true ∧ φs.getD g default = Fact.eq (.bool b)
theorem yields_of {a : Act} {g : Nat} {b : Bool} (h : valAt l a g = .bool b) : yielded l.toArray a.tmps g = some b := by
  unfold valAt at h
  unfold yielded
  rw [List.getElem?_toArray]
  cases hg : l[g]? with
  | none => rw [hg] at h; cases h
  | some o =>
    rw [hg] at h
    dsimp only at h
    cases hd : o.dst with
    | none => rw [hd] at h; cases h
    | some d =>
      rw [hd] at h
      dsimp only at h
      simp only [Option.bind_some, hd]
      rcases Nat.lt_or_ge d a.tmps.size with hlt | hge
      · have : a.tmps[d]? = some (.bool b) := by
          rw [Array.getD_eq_getD_getElem?, Array.getElem?_eq_getElem hlt] at h
          rw [Array.getElem?_eq_getElem hlt]
          exact congrArg some h
        rw [this]
      · rw [Array.getD_eq_getD_getElem?, Array.getElem?_eq_none hge] at h
        cases h
theorem on_wanted {i e : Nat} {o : Oper} {a : Act} {w : World} (hpre : ∀ j, bef l i j = true → (φs.getD j default).f e (valAt l a j) w) (h : On l φs i o) : Region.wanted o (yielded l.toArray a.tmps) = true := by
  unfold Region.wanted
  rcases h with h | ⟨g, b, h, hb, hφ⟩
  · rw [h]
  · have := hpre g hb
    rw [hφ] at this
    rw [h]
    simp only [yields_of (l := l) (this : valAt l a g = .bool b)]
    simp
def epB (l : List Oper) (ws : List Nat) (i p q : Nat) : Bool := lo l ws i == p && hi l ws i == q
variable {i : Nat} {o : Oper} {φ : Fact}
/-- An operation that yields a value and leaves the world alone. -/
theorem ask_val {v : Value} (ns : List Need) (hws : ws.contains i = false) (d : Tmp) (hd : o.dst = some d) (hg : On l φs i o) (hok : okN l φs a0 i ns)
    (h : ∀ e (ρ : Operand → Value) w, (∀ c, ρ (.const c) = c) → (∀ f, ρ (.func f) = .func (.func f) #[] #[]) → (∀ g, ρ (.global g) = .pointer (some ⟨g, 0, Option.none⟩)) → G e w → Has e ρ w ns ((execOp ρ o).run P w = .ok (.value v) w)) :
    Ask P Q l ws G φs a0 i o (Fact.eq v) := by
  unfold Ask
  rw [if_neg (by rw [hws]; simp)]
  intro e a w K hlo hhi hgl hfix hpre hK
  rw [if_pos (on_wanted hpre hg)]
  have hrun := has_elim hfix hpre ns hok (h e a.eval w (fun _ => rfl) (fun _ => rfl) (fun _ => rfl) hgl)
  unfold Oper.wp
  rw [hrun, Oper.upon_value]
  exact hK _ _ (by show _ = _; rw [hd]; rfl) (Below.refl _ _)
/-- One that yields a value, with a fact of it, and makes memory perhaps. -/
theorem ask_step (ns : List Need) (hws : ws.contains i = false) (d : Tmp) (hd : o.dst = some d) (hg : On l φs i o) (hok : okN l φs a0 i ns) (p q : Nat) (he : epB l ws i p q = true)
    (h : ∀ e (ρ : Operand → Value) w, p ≤ e → e ≤ q → (∀ c, ρ (.const c) = c) → (∀ f, ρ (.func f) = .func (.func f) #[] #[]) → (∀ g, ρ (.global g) = .pointer (some ⟨g, 0, Option.none⟩)) → G e w → Has e ρ w ns (∃ v w1, (execOp ρ o).run P w = .ok (.value v) w1 ∧ φ.f e v w1 ∧ Below w.heap.size w w1)) :
    Ask P Q l ws G φs a0 i o φ := by
  unfold Ask
  rw [if_neg (by rw [hws]; simp)]
  intro e a w K hlo hhi hgl hfix hpre hK
  rw [if_pos (on_wanted hpre hg)]
  simp only [epB, Bool.and_eq_true, beq_iff_eq] at he
  obtain ⟨v, w1, hrun, h1, h2⟩ := has_elim hfix hpre ns hok (h e a.eval w (by omega) (by omega) (fun _ => rfl) (fun _ => rfl) (fun _ => rfl) hgl)
  unfold Oper.wp
  rw [hrun, Oper.upon_value]
  exact hK _ _ (by rw [hd]; exact h1) h2
theorem enter_wp {f : FuncId} {args : Array Value} {a : Act} {w : World} {K : Act → World → Prop} (hrun : (execOp a.eval o).run P w = .ok (.enter f args) w) (h : Calls P f args w fun e w' => ∃ v, e = .returned v ∧ K (a.put o.dst v) w') : Oper.wp P o a w K Q := by
  unfold Oper.wp
  rw [hrun, Oper.upon_enter]
  refine h.mono ?_
  rintro e w' ⟨v, rfl, hk⟩
  exact hk
theorem enters {f : FuncId} {fn : Func} (hf : P.funcs[f]? = some fn) (hname : (fn.name == "runtime.NumGoroutine") = false) (hb : fn.body.isSome = true) (args : Array Value) (w : World) : (callFunc f args).run P w = .ok (.enter f args) w := by
  have h1 : fn.name ≠ "runtime.NumGoroutine" := by simpa using hname
  obtain ⟨c, hc⟩ := Option.isSome_iff_exists.1 hb
  simp [callFunc, hf, h1, hc]
/-- A call of a Go function. -/
theorem ask_call (ns : List Need) (hws : ws.contains i = false) (d : Tmp) (hd : o.dst = some d) (hg : On l φs i o) (hok : okN l φs a0 i ns) (p q : Nat) (he : epB l ws i p q = true)
    (f : FuncId) {fn : Func} (hf : P.funcs[f]? = some fn) (hname : (fn.name == "runtime.NumGoroutine") = false) (hb : fn.body.isSome = true) {as : Array Operand} {ts : Array TypeId} (hop : o.op = .call { callee := .value (.func f), args := as, argTypes := ts })
    (h : ∀ e (ρ : Operand → Value) w, p ≤ e → e ≤ q → (∀ c, ρ (.const c) = c) → (∀ f, ρ (.func f) = .func (.func f) #[] #[]) → (∀ g, ρ (.global g) = .pointer (some ⟨g, 0, Option.none⟩)) → G e w → Has e ρ w ns (∃ args, as.map ρ = args ∧ Calls P f args w fun en w' => ∃ v, en = .returned v ∧ φ.f e v w' ∧ Below w.heap.size w w')) :
    Ask P Q l ws G φs a0 i o φ := by
  unfold Ask
  rw [if_neg (by rw [hws]; simp)]
  intro e a w K hlo hhi hgl hfix hpre hK
  rw [if_pos (on_wanted hpre hg)]
  simp only [epB, Bool.and_eq_true, beq_iff_eq] at he
  obtain ⟨args, hargs, hc⟩ := has_elim hfix hpre ns hok (h e a.eval w (by omega) (by omega) (fun _ => rfl) (fun _ => rfl) (fun _ => rfl) hgl)
  refine enter_wp (f := f) (args := args) ?_ (hc.mono ?_)
  · have he := enters hf hname hb args w
    unfold execOp
    simp [hop, resolve, Deferred.ofValue, invoke, Act.eval, hargs, he]
  · rintro en w' ⟨v, rfl, h1, h2⟩
    exact ⟨v, rfl, hK _ _ (by rw [hd]; exact h1) h2⟩
def Trans (e : Nat) (w w1 : World) : List Fact → Prop
  | [] => True
  | φ :: s => (∀ x, φ.f e x w → φ.f (e + 1) x w1) ∧ Trans e w w1 s
theorem trans_at {e : Nat} {w w1 : World} : ∀ (s : List Fact), Trans e w w1 s → ∀ j, ∀ x, (s.getD j default).f e x w → (s.getD j default).f (e + 1) x w1
  | [], _, j, x, _ => by show (Fact.none).f _ _ _; trivial
  | φ :: s, h, 0, x, hx => h.1 x hx
  | φ :: s, h, j + 1, x, hx => trans_at s h.2 j x hx
/-- A store. -/
theorem ask_store (ns : List Need) (hws : ws.contains i = true) (hd : o.dst = Option.none) (hg : On l φs i o) (hok : okN l φs a0 i ns) (p q : Nat) (he : epB l ws i p q = true)
    (h : ∀ e (ρ : Operand → Value) w, p ≤ e → e ≤ q → (∀ c, ρ (.const c) = c) → (∀ f, ρ (.func f) = .func (.func f) #[] #[]) → (∀ g, ρ (.global g) = .pointer (some ⟨g, 0, Option.none⟩)) → G e w → Has e ρ w ns (∃ w1, (execOp ρ o).run P w = .ok .skip w1 ∧ φ.f (e + 1) undef w1 ∧ G (e + 1) w1 ∧ Trans e w w1 φs)) :
    Ask P Q l ws G φs a0 i o φ := by
  unfold Ask
  rw [if_pos hws]
  intro e a w K hlo hhi hgl hfix hpre hK
  rw [if_pos (on_wanted hpre hg)]
  simp only [epB, Bool.and_eq_true, beq_iff_eq] at he
  obtain ⟨w1, hrun, h1, h2, h3⟩ := has_elim hfix hpre ns hok (h e a.eval w (by omega) (by omega) (fun _ => rfl) (fun _ => rfl) (fun _ => rfl) hgl)
  unfold Oper.wp
  rw [hrun, Oper.upon_skip]
  exact hK _ _ (by rw [hd]; exact h1) h2 (fun j _ _ _ x => trans_at φs h3 j x)
/-- One that writes and yields a value (an append). -/
theorem ask_wval (ns : List Need) (hws : ws.contains i = true) (d : Tmp) (hd : o.dst = some d) (hg : On l φs i o) (hok : okN l φs a0 i ns) (p q : Nat) (he : epB l ws i p q = true)
    (h : ∀ e (ρ : Operand → Value) w, p ≤ e → e ≤ q → (∀ c, ρ (.const c) = c) → (∀ f, ρ (.func f) = .func (.func f) #[] #[]) → (∀ g, ρ (.global g) = .pointer (some ⟨g, 0, Option.none⟩)) → G e w → Has e ρ w ns (∃ v w1, (execOp ρ o).run P w = .ok (.value v) w1 ∧ φ.f (e + 1) v w1 ∧ G (e + 1) w1 ∧ Trans e w w1 φs)) :
    Ask P Q l ws G φs a0 i o φ := by
  unfold Ask
  rw [if_pos hws]
  intro e a w K hlo hhi hgl hfix hpre hK
  rw [if_pos (on_wanted hpre hg)]
  simp only [epB, Bool.and_eq_true, beq_iff_eq] at he
  obtain ⟨v, w1, hrun, h1, h2, h3⟩ := has_elim hfix hpre ns hok (h e a.eval w (by omega) (by omega) (fun _ => rfl) (fun _ => rfl) (fun _ => rfl) hgl)
  unfold Oper.wp
  rw [hrun, Oper.upon_value]
  exact hK _ _ (by rw [hd]; exact h1) h2 (fun j _ _ _ x => trans_at φs h3 j x)
/-- A call that writes. -/
theorem ask_wcall (ns : List Need) (hws : ws.contains i = true) (d : Tmp) (hd : o.dst = some d) (hg : On l φs i o) (hok : okN l φs a0 i ns) (p q : Nat) (he : epB l ws i p q = true)
    (f : FuncId) {fn : Func} (hf : P.funcs[f]? = some fn) (hname : (fn.name == "runtime.NumGoroutine") = false) (hb : fn.body.isSome = true) {as : Array Operand} {ts : Array TypeId} (hop : o.op = .call { callee := .value (.func f), args := as, argTypes := ts })
    (h : ∀ e (ρ : Operand → Value) w, p ≤ e → e ≤ q → (∀ c, ρ (.const c) = c) → (∀ f, ρ (.func f) = .func (.func f) #[] #[]) → (∀ g, ρ (.global g) = .pointer (some ⟨g, 0, Option.none⟩)) → G e w → Has e ρ w ns (∃ args, as.map ρ = args ∧ Calls P f args w fun en w1 => ∃ v, en = .returned v ∧ φ.f (e + 1) v w1 ∧ G (e + 1) w1 ∧ Trans e w w1 φs)) :
    Ask P Q l ws G φs a0 i o φ := by
  unfold Ask
  rw [if_pos hws]
  intro e a w K hlo hhi hgl hfix hpre hK
  rw [if_pos (on_wanted hpre hg)]
  simp only [epB, Bool.and_eq_true, beq_iff_eq] at he
  obtain ⟨args, hargs, hc⟩ := has_elim hfix hpre ns hok (h e a.eval w (by omega) (by omega) (fun _ => rfl) (fun _ => rfl) (fun _ => rfl) hgl)
  refine enter_wp (f := f) (args := args) ?_ (hc.mono ?_)
  · have he := enters hf hname hb args w
    unfold execOp
    simp [hop, resolve, Deferred.ofValue, invoke, Act.eval, hargs, he]
  · rintro en w' ⟨v, rfl, h1, h2, h3⟩
    exact ⟨v, rfl, hK _ _ (by rw [hd]; exact h1) h2 (fun j _ _ _ x => trans_at φs h3 j x)⟩
theorem fin_eq {e : Nat} {w : World} {r : List Oper} {s : List Fact} {a : Act} {x : Value} (h : Fin Q e w r s (a.put o.dst x)) : Fin Q e w (o :: r) (Fact.eq x :: s) a := by
  intro v hv
  have hv' : v = x := hv
  rw [hv']; exact h
theorem fin_fact {e : Nat} {w : World} {r : List Oper} {s : List Fact} {a : Act} (h : ∀ v, φ.f e v w → Fin Q e w r s (a.put o.dst v)) : Fin Q e w (o :: r) (φ :: s) a := h
theorem fin_nil {e : Nat} {w : World} {a a' : Act} (ha : a = a') (h : Q .normal a' w) : Fin Q e w [] [] a := by
  rw [ha]; exact h
end Go.Proofs.YtkfjjmmpbfjhaaaGreatDoor.Facts
