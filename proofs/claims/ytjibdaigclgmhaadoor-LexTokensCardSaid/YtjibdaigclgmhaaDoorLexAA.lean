/- Lists of tokens that the law writes over and makes longer: the plain facts, and the contracts of longer, marked, stands. Conditions: those that each theorem states. -/
import Derived.Test.YtjibdaigclgmhaaDoorLexZ
import Derived.Test.YtjibdaigclgmhaaDoorPLexTokensx6
import Derived.ArgAppend
namespace Go.Proofs.YtjibdaigclgmhaaDoor.LexW
open Go.RowKit Go.Maps Go.Proofs.YtjibdaigclgmhaaDoor.Lex Go.Proofs.YtjibdaigclgmhaaDoor.PLexTokens Go.Proofs.YtjibdaigclgmhaaDoorW.PrintWords Go.Proofs.YtjibdaigclgmhaaDoorW.PrintLast Go.Proofs.YtjibdaigclgmhaaDoorW.PrintMore Go.Proofs.YtjibdaigclgmhaaDoor.Facts
attribute [local go_sem] max2_int min2_int max_two min_two max_three min_three max_four min_four
set_option linter.unusedVariables false
set_option linter.unusedSimpArgs false
theorem flat42_len : ∀ l : List S42, (flat42 l).length = l.length * 4
  | [] => rfl
  | x :: l => by
    have := flat42_len l
    unfold flat42 at this ⊢
    rw [List.flatMap_cons, List.length_append, this, List.length_cons]; simp; omega
theorem flat42_cons (x : S42) (l : List S42) : flat42 (x :: l) = [.int .i64 x.f0, .string x.f1, .int .i64 x.f2, .int .i64 x.f3] ++ flat42 l := by unfold flat42; rw [List.flatMap_cons]
theorem flat42_app (l m : List S42) : flat42 (l ++ m) = flat42 l ++ flat42 m := by unfold flat42; rw [List.flatMap_append]
theorem flat42_part : ∀ (l : List S42) (j : Nat) (x : S42), l[j]? = some x → ((flat42 l).drop (j * 4)).take 4 = [.int .i64 x.f0, .string x.f1, .int .i64 x.f2, .int .i64 x.f3]
  | [], j, x, h => by simp at h
  | y :: l, 0, x, h => by simp at h; subst h; rw [flat42_cons]; rfl
  | y :: l, j + 1, x, h => by
    rw [flat42_cons, Nat.succ_mul]
    exact flat42_part l j x (by simpa using h)
theorem flat42_one (l : List S42) : ∀ u ∈ flat42 l, u.oneCell' = true := by
  intro u hu
  unfold flat42 at hu
  obtain ⟨x, _, hx⟩ := List.mem_flatMap.1 hu
  simp at hx
  rcases hx with rfl | rfl | rfl | rfl <;> rfl
theorem reps42 (w : World) (base : Nat) (ok : Nat → Prop) (l : List S42) : Reps (k42.M w base ok) k42.sz l (flat42 l) := by
  refine ⟨by rw [flat42_len]; rfl, fun j p hj => ?_⟩
  show k42.M w base ok p (((flat42 l).drop (j * 4)).take 4)
  rw [flat42_part l j p hj]
  exact k42_mkM w base ok p
theorem R_of_flat {w : World} {base n : Nat} {v : Value} {l : List S42} (h : w.ownsRow base 42 4 v n (flat42 l)) (hn : n = l.length) : Kd.R k42 42 w base (fun _ => True) v l := by
  subst hn
  exact ⟨fun _ _ => trivial, _, h, reps42 _ _ _ _⟩
/-- a row of tokens' cells at the head of a block -/
def Own42 (w : World) (g : Nat) (xs : List S42) : Prop := ∃ cur, w.heap[g]? = some (.cells cur 42 (0, 0)) ∧ xs.length ≤ 1099511627776 ∧ ∀ j x, xs[j]? = some x → cur[j * 4]? = some (.int .i64 x.f0) ∧ cur[j * 4 + 1]? = some (.string x.f1) ∧ cur[j * 4 + 2]? = some (.int .i64 x.f2) ∧ cur[j * 4 + 3]? = some (.int .i64 x.f3)
theorem Own42.C {w : World} {g : Nat} {xs : List S42} (h : Own42 w g xs) : Kd.C k42 w (some ⟨g, 0, none⟩) xs.length xs := by
  obtain ⟨cur, hb, hl, hc⟩ := h
  refine ⟨rfl, by omega, fun _ => ⟨_, rfl, fun j p hj => ⟨_, rfl, k42_mk _ p, fun i u hu => ?_⟩⟩⟩
  obtain ⟨c0, c1, c2, c3⟩ := hc j p hj
  have hi : i < 4 := by have := (List.getElem?_eq_some_iff.1 hu).1; simpa using this
  have hadd : (⟨g, 0, none⟩ : Addr).add (j * k42.sz + i) = ⟨g, j * 4 + i, none⟩ := by
    show (⟨g, 0, none⟩ : Addr).add (j * 4 + i) = _
    unfold Addr.add
    split
    · rename_i e; rw [e]
    · simp
  rw [hadd, blk_cell hb]
  rcases (show i = 0 ∨ i = 1 ∨ i = 2 ∨ i = 3 by omega) with rfl | rfl | rfl | rfl
  · simp at hu; subst hu; exact c0
  · simp at hu; subst hu; exact c1
  · simp at hu; subst hu; exact c2
  · simp at hu; subst hu; exact c3
theorem Own42.move {w w' : World} {g : Nat} {xs : List S42} (h : Own42 w g xs) (hk : w'.heap[g]? = w.heap[g]?) : Own42 w' g xs := by
  obtain ⟨cur, hb, hl, hc⟩ := h
  exact ⟨cur, by rw [hk]; exact hb, hl, hc⟩
theorem Own42.lt {w : World} {g : Nat} {xs : List S42} (h : Own42 w g xs) : g < w.heap.size := by
  obtain ⟨cur, hb, _⟩ := h
  exact blk_lt hb
theorem Own42.below {w w' : World} {g : Nat} {xs : List S42} (h : Own42 w g xs) (hb : Below w.heap.size w w') : Own42 w' g xs := h.move (hb.block g h.lt)
/-- an element written over -/
theorem Own42.put {w : World} {g : Nat} {xs : List S42} (h : Own42 w g xs) (i : Nat) (hi : i < xs.length) (x : S42) :
    Own42 ((((w.setCell ⟨g, i * 4, none⟩ (.int .i64 x.f0)).setCell ⟨g, i * 4 + 1, none⟩ (.string x.f1)).setCell ⟨g, i * 4 + 2, none⟩ (.int .i64 x.f2)).setCell ⟨g, i * 4 + 3, none⟩ (.int .i64 x.f3)) g (xs.set i x) := by
  obtain ⟨cur, hb, hl, hc⟩ := h
  refine ⟨_, blk_set (blk_set (blk_set (blk_set hb _ _) _ _) _ _) _ _, by rw [List.length_set]; exact hl, fun j y hj => ?_⟩
  have hsz : i * 4 + 3 < cur.size := by
    have := (hc i xs[i] (List.getElem?_eq_getElem hi)).2.2.2
    exact (Array.getElem?_eq_some_iff.1 this).1
  by_cases hij : i = j
  · subst hij
    rw [List.getElem?_set_self hi] at hj
    injection hj with hj
    subst hj
    refine ⟨?_, ?_, ?_, ?_⟩ <;> simp [Array.getElem?_setIfInBounds] <;> omega
  · rw [List.getElem?_set_ne hij] at hj
    obtain ⟨c0, c1, c2, c3⟩ := hc j y hj
    refine ⟨?_, ?_, ?_, ?_⟩
    · rw [Array.getElem?_setIfInBounds_ne (by omega), Array.getElem?_setIfInBounds_ne (by omega), Array.getElem?_setIfInBounds_ne (by omega), Array.getElem?_setIfInBounds_ne (by omega)]; exact c0
    · rw [Array.getElem?_setIfInBounds_ne (by omega), Array.getElem?_setIfInBounds_ne (by omega), Array.getElem?_setIfInBounds_ne (by omega), Array.getElem?_setIfInBounds_ne (by omega)]; exact c1
    · rw [Array.getElem?_setIfInBounds_ne (by omega), Array.getElem?_setIfInBounds_ne (by omega), Array.getElem?_setIfInBounds_ne (by omega), Array.getElem?_setIfInBounds_ne (by omega)]; exact c2
    · rw [Array.getElem?_setIfInBounds_ne (by omega), Array.getElem?_setIfInBounds_ne (by omega), Array.getElem?_setIfInBounds_ne (by omega), Array.getElem?_setIfInBounds_ne (by omega)]; exact c3
/-- nothing but block g is written -/
def Only (g : Nat) (w w' : World) : Prop := w'.os = w.os ∧ w'.tape = w.tape ∧ w'.output = w.output ∧ w.heap.size ≤ w'.heap.size ∧ ∀ k, k ≠ g → k < w.heap.size → w'.heap[k]? = w.heap[k]?
theorem Only.refl (g : Nat) (w : World) : Only g w w := ⟨rfl, rfl, rfl, Nat.le_refl _, fun _ _ _ => rfl⟩
theorem Only.set {g : Nat} {w w' : World} (h : Only g w w') (j : Nat) (u : Value) : Only g w (w'.setCell ⟨g, j, none⟩ u) :=
  ⟨h.1, h.2.1, h.2.2.1, by rw [show (w'.setCell ⟨g, j, none⟩ u).heap.size = w'.heap.size by simp [World.setCell]]; exact h.2.2.2.1, fun k hk hlt => by rw [Below.heap_setCell w' _ u k (show k ≠ g from hk)]; exact h.2.2.2.2 k hk hlt⟩
theorem Only.drewN {g : Nat} {w w' : World} (h : Only g w w') (n : Nat) : Only g w (w'.drewN n) := h
theorem Only.below {g B : Nat} {w w' : World} (h : Only g w w') (hB : B ≤ g) (hs : B ≤ w.heap.size) : Below B w w' := ⟨h.1, h.2.1, h.2.2.1, h.2.2.2.1, fun k hk => h.2.2.2.2 k (by omega) (by omega)⟩
def mk0 (a : Int) : S42 := ⟨a, ⟨#[]⟩, 0, 0⟩
/-- what longer's list is after i rounds -/
def LRel (w : World) (g n : Nat) (xs : List S42) (a : Int) (i : Nat) (v : Value) (wr : World) : Prop :=
  (i = 0 ∧ v = .slice (some ⟨g, 0, none⟩) n n ∧ wr = w) ∨ (0 < i ∧ Kd.R k42 42 wr w.heap.size (fun _ => True) v (xs ++ List.replicate i (mk0 a)) ∧ Below w.heap.size w wr)
theorem C_olds {w : World} {g n : Nat} {xs : List S42} (h : Kd.C k42 w (some ⟨g, 0, none⟩) n xs) : ∀ j u, (flat42 xs)[j]? = some u → w.cell? ⟨g, 0 + j, none⟩ = some u := by
  intro j u hu
  have hj : j < (flat42 xs).length := (List.getElem?_eq_some_iff.1 hu).1
  rw [flat42_len] at hj
  obtain ⟨ad, he, hc⟩ := h.2.2 (by have := h.1; omega)
  cases he
  have hq : j / 4 < xs.length := by omega
  obtain ⟨c, hl, hk, hcell⟩ := hc (j / 4) xs[j / 4] (List.getElem?_eq_getElem hq)
  have hk' := k42_open hk
  have hpart := flat42_part xs (j / 4) xs[j / 4] (List.getElem?_eq_getElem hq)
  have hcj : c[j % 4]? = some u := by
    rw [hk', ← hpart, List.getElem?_take, if_pos (by omega), List.getElem?_drop, show j / 4 * 4 + j % 4 = j by omega, hu]
  have := hcell (j % 4) u hcj
  have hadd : (⟨g, 0, none⟩ : Addr).add (j / 4 * k42.sz + j % 4) = ⟨g, 0 + j, none⟩ := by
    show (⟨g, 0, none⟩ : Addr).add (j / 4 * 4 + j % 4) = _
    rw [show j / 4 * 4 + j % 4 = j by omega]
    unfold Addr.add
    split
    · rename_i e; rw [e]
    · simp
  rw [hadd] at this
  exact this
theorem info42' : ∃ i, Tryd.prog.info? 42 = some i ∧ i.zero = some (.agg #[(.int .i64 0), (.string ⟨#[]⟩), (.int .i64 0), (.int .i64 0)]) ∧ i.size = 4 ∧ i.bytes = 40 := by
  obtain ⟨i, hi, h1, h2, h3⟩ := info_parts info42
  exact ⟨i, hi, h1, h2, h3⟩
set_option maxHeartbeats 4000000 in
set_option maxRecDepth 100000 in
theorem longer_clip (g n : Nat) (xs : List S42) (a : Int) (w : World) (hC : Kd.C k42 w (some ⟨g, 0, none⟩) n xs) (hn : n ≤ 1099511627776) : Calls Tryd.prog 14 #[.slice (some ⟨g, 0, none⟩) n n, .int .i64 a] w fun e w' => ∃ v, e = .returned v ∧ Kd.R k42 42 w' w.heap.size (fun _ => True) v (xs ++ List.replicate 64 (mk0 a)) ∧ Below w.heap.size w w' := by
  obtain ⟨i0, hi0, hz0, hs0, hb0⟩ := info42'
  have HI : Aside0 (Tryd.prog.info? 42 = some i0 ∧ i0.zero = some (.agg #[(.int .i64 0), (.string ⟨#[]⟩), (.int .i64 0), (.int .i64 0)]) ∧ i0.size = 4 ∧ i0.bytes = 40) := ⟨hi0, hz0, hs0, hb0⟩
  have HC := Aside0.mk hC
  have hxl : xs.length = n := hC.1
  have HXL := Aside0.mk hxl
  clear hi0 hz0 hs0 hb0 hC hxl
  go_enter Tryd.func14, Tryd.ntmps14
  go_wp2_with fail
  go_loopw [0, 5] (fun v0 v5 wr => ∃ i : Nat, v5 = .int .i64 (i : Int) ∧ i ≤ 64 ∧ Aside0 (LRel w g n xs a i v0 wr)) (fun _ v5 _ => 64 - (intOf v5).toNat)
  case atStart => exact ⟨0, rfl, by omega, ⟨.inl ⟨rfl, rfl, rfl⟩⟩⟩
  case round =>
    obtain ⟨i, rfl, hi, HL⟩ := hrel
    by_cases hlt : i < 64
    · have b1 : decide ((i : Int) < 64) = true := decide_eq_true (by omega)
      rcases HL.out with ⟨rfl, hv, hw⟩ | ⟨h0, hR, hB⟩
      · subst hw
        subst hv
        clear HL
        have hol := C_olds HC.out
        have HOL := Aside0.mk hol
        clear hol
        go_wp2_with (at_builtin; refine wpList_append_arg _ rfl (.tmp 10) (.tmp 13) 22 rfl 42 i0 (.agg #[(.int .i64 0), (.string ⟨#[]⟩), (.int .i64 0), (.int .i64 0)]) 4 40 Tryd.underlying22 HI.out.1 HI.out.2.1 HI.out.2.2.1 HI.out.2.2.2 rfl (by decide) g 0 n n (flat42 xs) rfl (by rw [flat42_len, HXL.out]) (fun j u hu => pw_cell_below (below_alloc (Below.refl _ _) _) (HOL.out j u hu)) ⟨wr.heap.size, 0, none⟩ 1 1 [.int .i64 a, .string ⟨#[]⟩, .int .i64 0, .int .i64 0] rfl rfl (fun j u hu => World.news_of_block (cs := #[.int .i64 a, .string ⟨#[]⟩, .int .i64 0, .int .i64 0]) (t := 42) (fr := (0, 0)) (heap_alloc_new wr (.cells #[.int .i64 a, .string ⟨#[]⟩, .int .i64 0, .int .i64 0] 42 (0, 0))) j u (by simpa using hu)) (by simp; exact ⟨rfl, rfl, rfl⟩) (fun h => by omega) (by unfold maxLen; omega) (by omega) (fun h => by omega) ?_; intro _ v1 w2 hown hg; have HOWN := Aside0.mk hown; have HG := Aside0.mk hg; clear hown hg)
        refine ⟨⟨1, by first | rfl | go_num, by omega, ⟨.inr ⟨by omega, ?_, ?_⟩⟩⟩, by simp [intOf]⟩
        · have h1 := own_weaken HOWN.out (base' := wr.heap.size) (by simp)
          exact R_of_flat (n := n + 1) (by rw [flat42_app]; exact h1) (by rw [List.length_append, HXL.out]; rfl)
        · exact Below.grown ((Below.refl wr.heap.size wr).alloc (Nat.le_refl _) _) HG.out (by simp) (fun k h => by cases h)
      · have HR := Aside0.mk hR
        have HB := Aside0.mk hB
        clear HL hR hB
        go_wp2_with (at_builtin; refine Kd.R_append k42 (w0 := w) w.heap.size rfl (.tmp 10) (.tmp 13) 22 42 (.agg #[(.int .i64 0), (.string ⟨#[]⟩), (.int .i64 0), (.int .i64 0)]) 40 rfl Tryd.underlying22 info42 rfl (by decide) (by omega) _ (xs ++ List.replicate i (mk0 a)) (mk0 a) [.int .i64 a, .string ⟨#[]⟩, .int .i64 0, .int .i64 0] (fun _ => True) (fun _ => False) rfl rfl (by exact k42_mkM _ _ _ (mk0 a)) (fun _ hk => hk.elim) (fun _ _ => trivial) (by exact HR.out) (by exact HB.out) (by exact HB.out.size) (by rw [List.length_append, List.length_replicate, HXL.out]; omega) ?_; intro v1 w8 hr8 hb8 hg8 ha8; have HR8 := Aside0.mk hr8; have HB8 := Aside0.mk hb8; clear hr8 hb8 hg8 ha8)
        refine ⟨⟨i + 1, by go_num, by omega, ⟨.inr ⟨by omega, ?_, HB8.out⟩⟩⟩, by simp [intOf]; omega⟩
        rw [List.replicate_succ', ← List.append_assoc]
        exact HR8.out
    · obtain rfl : i = 64 := by omega
      rcases HL.out with ⟨h, _⟩ | ⟨_, hR, hB⟩
      · omega
      · have HR := Aside0.mk hR
        have HB := Aside0.mk hB
        clear HL hR hB
        go_wp2_with fail
        go_ret
        exact ⟨_, rfl, HR.out, HB.out⟩
theorem longer_f (a : Int) : ∀ (k i : Nat) (xs : List S42), i ≤ 64 → 64 - i < k → xs.length ≤ 1099511627776 + i → kilnlaw7_longer.l0 k xs a (i : Int) = some (xs ++ List.replicate (64 - i) (mk0 a)) := by
  intro k
  induction k with
  | zero => intro i xs h1 h2; omega
  | succ k ih =>
    intro i xs h1 h2 h3
    rw [kilnlaw7_longer.l0]
    by_cases hi : i < 64
    · have hw : wrap64 ((i : Int) + 1) = ((i + 1 : Nat) : Int) := by unfold wrap64; omega
      rw [if_pos (by omega), if_pos (by omega), hw]
      have := ih (i + 1) (xs ++ [mk0 a]) (by omega) (by omega)
      rw [show (xs ++ [(⟨a, (⟨#[]⟩ : ByteArray), 0, 0⟩ : S42)]) = xs ++ [mk0 a] from rfl, this (by simp; omega), List.append_assoc, List.singleton_append, ← List.replicate_succ, show 64 - (i + 1) + 1 = 64 - i by omega]
    · obtain rfl : i = 64 := by omega
      rw [if_neg (by omega)]; simp
theorem longer_f0 (a : Int) : kilnlaw7_longer.f 65 [] a = some (List.replicate 64 (mk0 a)) := by
  unfold kilnlaw7_longer.f
  have := longer_f a 65 0 [] (by omega) (by omega) (by simp)
  simpa using this
theorem longer_nil (a : Int) (w : World) : Calls Tryd.prog 14 #[.slice none 0 0, .int .i64 a] w fun e w' => ∃ v, e = .returned v ∧ Kd.R k42 42 w' w.heap.size (fun _ => True) v (List.replicate 64 (mk0 a)) ∧ Below w.heap.size w w' := by
  refine (kilnlaw7_longer.calls 65 (fun _ => False) (.slice none 0 0) [] a (List.replicate 64 (mk0 a)) w w (Below.refl _ _) (Kd.R_nil _ _ _ _ _) (longer_f0 a)).mono ?_
  rintro e w' ⟨v, rfl, hR, hB, _⟩
  exact ⟨v, rfl, Kd.R_mono hR (fun _ _ => trivial), hB⟩
def marks (a : Int) (n : Nat) : List S42 := (List.range n).map (fun (i : Nat) => ⟨a, ⟨#[]⟩, 0, (i : Int)⟩)
theorem marks_len (a : Int) (n : Nat) : (marks a n).length = n := by simp [marks]
theorem marks_at (a : Int) (n i : Nat) (h : i < n) : (marks a n)[i]? = some ⟨a, ⟨#[]⟩, 0, (i : Int)⟩ := by simp [marks, h]
theorem marks_step (a : Int) (ys : List S42) (i : Nat) (hi : i < ys.length) : (marks a i ++ ys.drop i).set i ⟨a, ⟨#[]⟩, 0, (i : Int)⟩ = marks a (i + 1) ++ ys.drop (i + 1) := by
  rw [List.set_append_right _ _ (by rw [marks_len]; omega), marks_len, Nat.sub_self, List.drop_eq_getElem_cons hi, List.set_cons_zero]
  unfold marks
  rw [List.range_succ, List.map_append]
  simp
theorem addr_row (g k j : Nat) : (⟨g, 0, none⟩ : Addr).add (k * 4) = ⟨g, k * 4, none⟩ := by
  unfold Addr.add
  split
  · rename_i e; rw [e]
  · simp
set_option maxHeartbeats 4000000 in
set_option maxRecDepth 100000 in
theorem marked_some (g c : Nat) (ys : List S42) (a : Int) (w : World) (hO : Own42 w g ys) (hc : ys.length ≤ c) : Calls Tryd.prog 13 #[.slice (some ⟨g, 0, none⟩) ys.length c, .int .i64 a] w fun e w' => e = .returned (.tuple #[]) ∧ Own42 w' g (marks a ys.length) ∧ Only g w w' := by
  have HO := Aside0.mk hO
  have hlen : ys.length ≤ 1099511627776 := by obtain ⟨_, _, h, _⟩ := hO; exact h
  clear hO
  go_enter Tryd.func13, Tryd.ntmps13
  go_wp2_with fail
  go_loopw [4] (fun v4 wr => ∃ i : Nat, v4 = .int .i64 (i : Int) ∧ i ≤ ys.length ∧ Aside0 (Own42 wr g (marks a i ++ ys.drop i) ∧ Only g w wr)) (fun v4 _ => ys.length - (intOf v4).toNat)
  case atStart => exact ⟨0, rfl, Nat.zero_le _, ⟨by simpa [marks] using HO.out, Only.refl _ _⟩⟩
  case round =>
    clear HO
    obtain ⟨i, rfl, hi, HR⟩ := hrel
    by_cases hlt : i < ys.length
    · have b1 : decide ((i : Int) < (ys.length : Int)) = true := decide_eq_true (by omega)
      have hi1 : (i : Int) < (ys.length : Int) := by omega
      have hll : (marks a i ++ ys.drop i).length = ys.length := by rw [List.length_append, marks_len, List.length_drop]; omega
      have hC := HR.out.1.C
      rw [hll] at hC
      obtain ⟨x, hx⟩ : ∃ x, (marks a i ++ ys.drop i)[i]? = some x := ⟨_, List.getElem?_eq_getElem (by rw [hll]; exact hlt)⟩
      obtain ⟨cur, hb, _, hcur⟩ := HR.out.1
      obtain ⟨c0, c1, c2, c3⟩ := hcur i x hx
      have e0 : wr.cell? ⟨g, i * 4, none⟩ = some (.int .i64 x.f0) := by rw [blk_cell hb]; exact c0
      have e1 : wr.cell? ⟨g, i * 4 + 1, none⟩ = some (.string x.f1) := by rw [blk_cell hb]; exact c1
      have e2 : wr.cell? ⟨g, i * 4 + 2, none⟩ = some (.int .i64 x.f2) := by rw [blk_cell hb]; exact c2
      have e3 : wr.cell? ⟨g, i * 4 + 3, none⟩ = some (.int .i64 x.f3) := by rw [blk_cell hb]; exact c3
      have f0 : ∀ o, wr.frozen? ⟨g, o, none⟩ = false := fun o => blk_frozen hb o
      clear hC hb hcur c0 c1 c2 c3 hx
      go_wp2_with fail
      refine ⟨⟨i + 1, by go_num, by omega, ⟨?_, ((((HR.out.2.set _ _).set _ _).set _ _).set _ _)⟩⟩, by simp [intOf]; omega⟩
      have := HR.out.1.put i (by rw [hll]; exact hlt) ⟨a, ⟨#[]⟩, 0, (i : Int)⟩
      rw [marks_step a ys i hlt] at this
      exact this
    · obtain rfl : i = ys.length := by omega
      have b1 : decide ((ys.length : Int) < (ys.length : Int)) = false := decide_eq_false (by omega)
      go_wp2_with fail
      first | go_end0 | ((try simp only [Exit.inBlock, Exit.then]); refine bodyPost_ret (results_none rfl _ _ _) rfl ?_)
      refine ⟨rfl, ?_, HR.out.2⟩
      have := HR.out.1
      rw [List.drop_length, List.append_nil] at this
      exact this
set_option maxHeartbeats 4000000 in
set_option maxRecDepth 100000 in
theorem marked_none (a : Int) (w : World) : Calls Tryd.prog 13 #[.slice none 0 0, .int .i64 a] w fun e w' => e = .returned (.tuple #[]) ∧ w' = w := by
  go_enter Tryd.func13, Tryd.ntmps13
  go_wp2_with fail
  refine wp_loop_rounds 1 ?_
  rw [rounds_succ]
  go_wp2_with fail
  first | go_end0 | ((try simp only [Exit.inBlock, Exit.then]); refine bodyPost_ret (results_none rfl _ _ _) rfl ?_)
  exact ⟨rfl, rfl⟩
/-- a list that lies in one of the blocks lo .. hi, or is nil -/
def Lst (w : World) (lo hi : Nat) (A : Option Addr) (xs : List S42) : Prop := (A = none ∧ xs = []) ∨ ∃ g, lo ≤ g ∧ g < hi ∧ A = some ⟨g, 0, none⟩ ∧ Own42 w g xs
theorem Lst.C {w : World} {lo hi : Nat} {A : Option Addr} {xs : List S42} (h : Lst w lo hi A xs) : Kd.C k42 w A xs.length xs := by
  rcases h with ⟨rfl, rfl⟩ | ⟨g, _, _, rfl, h⟩
  · exact ⟨rfl, by simp, fun h => by simp at h⟩
  · exact h.C
theorem Lst.move {w w' : World} {lo hi : Nat} {A : Option Addr} {xs : List S42} (h : Lst w lo hi A xs) (hk : ∀ k, lo ≤ k → k < hi → k < w.heap.size → w'.heap[k]? = w.heap[k]?) : Lst w' lo hi A xs := by
  rcases h with ⟨rfl, rfl⟩ | ⟨g, h1, h2, rfl, h⟩
  · exact .inl ⟨rfl, rfl⟩
  · exact .inr ⟨g, h1, h2, rfl, h.move (hk g h1 h2 h.lt)⟩
theorem Lst.below {w w' : World} {lo hi : Nat} {A : Option Addr} {xs : List S42} (h : Lst w lo hi A xs) (hb : Below w.heap.size w w') : Lst w' lo hi A xs := h.move (fun k _ _ hk => hb.block k hk)
/-- nothing but the blocks lo .. hi is written -/
def Out (lo hi : Nat) (w w' : World) : Prop := w'.os = w.os ∧ w'.tape = w.tape ∧ w'.output = w.output ∧ w.heap.size ≤ w'.heap.size ∧ ∀ k, k < w.heap.size → ¬ (lo ≤ k ∧ k < hi) → w'.heap[k]? = w.heap[k]?
theorem Lst.out {w w' : World} {lo hi lo' hi' : Nat} {A : Option Addr} {xs : List S42} (h : Lst w lo hi A xs) (ho : Out lo' hi' w w') (hd : hi ≤ lo' ∨ hi' ≤ lo) : Lst w' lo hi A xs := h.move (fun k h1 h2 hk => ho.2.2.2.2 k hk (by omega))
theorem Out.blk {w w' : World} {lo hi g : Nat} {o : Obj} (ho : Out lo hi w w') (h : w.heap[g]? = some o) (hg : g < lo ∨ hi ≤ g) : w'.heap[g]? = some o := (ho.2.2.2.2 g (blk_lt h) (by omega)).trans h
theorem Out.below {w w' : World} {lo hi B : Nat} (ho : Out lo hi w w') (h1 : B ≤ lo) (h2 : B ≤ w.heap.size) : Below B w w' := ⟨ho.1, ho.2.1, ho.2.2.1, ho.2.2.2.1, fun k hk => ho.2.2.2.2 k (by omega) (by omega)⟩
theorem Lst_of_R {w : World} {base n c : Nat} {ok : Nat → Prop} {A : Option Addr} {xs : List S42} (h : Kd.R k42 42 w base ok (.slice A n c) xs) (hl : xs.length ≤ 1099511627776) : Lst w base w.heap.size A xs := by
  obtain ⟨_, inner, hown, hreps⟩ := h
  obtain ⟨h1, h2 | ⟨g, cap, cur, hv, hg, hh, h3, h4, h5, h6⟩⟩ := hown
  · obtain ⟨hv, hn⟩ := h2
    injection hv with hA _ _
    exact .inl ⟨hA, List.length_eq_zero_iff.1 hn⟩
  · injection hv with hA _ _
    refine .inr ⟨g, hg, blk_lt hh, hA, cur, hh, hl, fun j x hj => ?_⟩
    have hk := k42_openM (hreps.2 j x hj)
    have hjl : j < xs.length := (List.getElem?_eq_some_iff.1 hj).1
    have hc : ∀ i, i < 4 → cur[j * 4 + i]? = ([Value.int .i64 x.f0, .string x.f1, .int .i64 x.f2, .int .i64 x.f3])[i]? := by
      intro i hi
      rw [← hk]
      show _ = ((inner.drop (j * 4)).take 4)[i]?
      rw [List.getElem?_take, if_pos hi, List.getElem?_drop, ← h6]
      have : j * 4 + i < xs.length * k42.sz := by show _ < xs.length * 4; omega
      rw [List.getElem?_take, if_pos this]
      simp
    exact ⟨hc 0 (by omega), hc 1 (by omega), hc 2 (by omega), hc 3 (by omega)⟩
theorem marked_lst {w : World} {lo hi : Nat} {A : Option Addr} {xs : List S42} (a : Int) (h : Lst w lo hi A xs) : Calls Tryd.prog 13 #[.slice A xs.length xs.length, .int .i64 a] w fun e w' => e = .returned (.tuple #[]) ∧ Lst w' lo hi A (marks a xs.length) ∧ Out lo hi w w' := by
  rcases h with ⟨rfl, rfl⟩ | ⟨g, h1, h2, rfl, h⟩
  · refine (marked_none a w).mono ?_
    rintro e w' ⟨rfl, rfl⟩
    exact ⟨rfl, .inl ⟨rfl, rfl⟩, rfl, rfl, rfl, Nat.le_refl _, fun _ _ _ => rfl⟩
  · refine (marked_some g _ xs a w h (Nat.le_refl _)).mono ?_
    rintro e w' ⟨rfl, ho, hy⟩
    exact ⟨rfl, .inr ⟨g, h1, h2, rfl, ho⟩, hy.1, hy.2.1, hy.2.2.1, hy.2.2.2.1, fun k hk hn => hy.2.2.2.2 k (by rintro rfl; exact hn ⟨h1, h2⟩) hk⟩
theorem longer_lst {w : World} {lo hi : Nat} {A : Option Addr} {xs : List S42} (a : Int) (h : Lst w lo hi A xs) (hl : xs.length ≤ 1099511627000) : Calls Tryd.prog 14 #[.slice A xs.length xs.length, .int .i64 a] w fun e w' => ∃ B c, e = .returned (.slice B (xs.length + 64) c) ∧ xs.length + 64 ≤ c ∧ Lst w' w.heap.size w'.heap.size B (xs ++ List.replicate 64 (mk0 a)) ∧ Below w.heap.size w w' := by
  have key : Calls Tryd.prog 14 #[.slice A xs.length xs.length, .int .i64 a] w fun e w' => ∃ v, e = .returned v ∧ Kd.R k42 42 w' w.heap.size (fun _ => True) v (xs ++ List.replicate 64 (mk0 a)) ∧ Below w.heap.size w w' := by
    rcases h with ⟨rfl, rfl⟩ | ⟨g, h1, h2, rfl, h⟩
    · exact longer_nil a w
    · exact longer_clip g xs.length xs a w h.C (by omega)
  refine key.mono ?_
  rintro e w' ⟨v, rfl, hR, hB⟩
  obtain ⟨B, c, hv, hc, _⟩ := Kd.R_reads hR
  subst hv
  have hlen : (xs ++ List.replicate 64 (mk0 a)).length = xs.length + 64 := by simp
  have hL := Lst_of_R hR (by rw [hlen]; omega)
  rw [hlen] at hc ⊢
  exact ⟨B, c, rfl, hc, hL, hB⟩
end Go.Proofs.YtjibdaigclgmhaaDoor.LexW
