/- Lists that a caller owns: appends that are followed closely, the law's function filled. Conditions: those that each theorem states. -/
import Derived.Test.YtcnjdgafemgaeaaSymPlays
import Derived.Outline
import Derived.Test.YtcnjdgafemgaeaaPSymbolOwnListsx1
import Derived.OwnWalk
import Derived.ArgAppend
namespace Go.Proofs.Ytcnjdgafemgaeaa.Sym
open Go.RowKit Go.Maps Go.WideMaps Go.Proofs.Ytcnjdgafemgaeaa.PSymbolFirst Go.Proofs.YtcnjdgafemgaeaaW.PrintWords Go.Proofs.YtcnjdgafemgaeaaW.PrintLast Go.Proofs.YtcnjdgafemgaeaaW.PrintMore
attribute [local go_sem] max2_int min2_int max_two min_two max_three min_three max_four min_four
set_option linter.unusedVariables false
set_option linter.unusedSimpArgs false
section
variable {ops : Array Oper} {rest : List Oper} {o : Oper} {a : Act} {Q : Exit → Act → World → Prop}
/-- an append that fits: the row stays where it is -/
theorem app_room (W : World) (base : Nat) (hgd : o.guard = none) (s x : Operand) (ho : o.op = .call { callee := .builtin .append, args := #[s, x], argTypes := #[36, 36] }) (g k c : Nat) (xs : List ByteArray) (p : ByteArray) (ok : Nat → Prop)
    (hs : a.eval s = .slice (some ⟨g, 0, none⟩) k c) (hx : a.eval x = .slice (some ⟨W.heap.size, 0, none⟩) 1 1) (HO : Kd.R Kd.string 9 W base ok (.slice (some ⟨g, 0, none⟩) k c) xs) (hk : k + 1 ≤ c)
    (h : ∀ w1, Kd.R Kd.string 9 w1 base ok (.slice (some ⟨g, 0, none⟩) (k + 1) c) (xs ++ [p]) → W.grownBy w1 (some g) → wpList Try.prog ops Q rest (a.put o.dst (.slice (some ⟨g, 0, none⟩) (k + 1) c)) w1) :
    wpList Try.prog ops Q (o :: rest) a (W.alloc (.cells #[.string p] 9)) := by
  obtain ⟨i0, hi, hzz⟩ := Option.map_eq_some_iff.1 info9
  simp only [Prod.mk.injEq] at hzz
  obtain ⟨hz0, hz1, hz2⟩ := hzz
  obtain ⟨rfl, _⟩ := Kd.R_reads' HO
  have hown := Kd.own_of_R (enc := Value.string) (h1 := fun _ => rfl) HO
  refine wpList_append_fits (W.alloc (.cells #[.string p] 9)) hgd s x 36 ho base 9 i0 1 Try.underlying36 hi hz1 g xs.length c (encs Value.string xs) hs (hown.alloc _) ⟨W.heap.size, 0, none⟩ 1 1 [.string p] hx rfl
    (by simpa using World.news_of_block (cs := #[.string p]) (t := 9) (fr := (0, 0)) (heap_alloc_new W (.cells #[.string p] 9))) (fun u hu => by simp at hu; subst hu; rfl) hk ?_
  intro w1 hw1 hg
  have hrow := World.grownBy.trans (World.grownBy_alloc W (.cells #[.string p] 9) _) hg
  refine h w1 ?_ hrow
  have e : encs Value.string xs ++ [Value.string p] = encs Value.string (xs ++ [p]) := by simp [encs]
  rw [e] at hw1
  have e2 : xs.length + 1 = (xs ++ [p]).length := by simp
  rw [e2] at hw1 ⊢
  exact Kd.R_of_own (enc := Value.string) (h1 := fun _ => rfl) hw1 HO.1
/-- an append that grows: a row of its own, all others stay -/
theorem app_new (W : World) (base : Nat) (hgd : o.guard = none) (s x : Operand) (ho : o.op = .call { callee := .builtin .append, args := #[s, x], argTypes := #[36, 36] }) (A : Option Addr) (k c : Nat) (xs : List ByteArray) (p : ByteArray) (ok : Nat → Prop)
    (hs : a.eval s = .slice A k c) (hx : a.eval x = .slice (some ⟨W.heap.size, 0, none⟩) 1 1) (HO : Kd.R Kd.string 9 W base ok (.slice A k c) xs) (hk : c < k + 1) (hsz : xs.length ≤ 8796093022206)
    (h : ∀ v1 w1, Kd.R Kd.string 9 w1 W.heap.size (fun i => W.heap.size ≤ i) v1 (xs ++ [p]) → W.grownBy w1 none → wpList Try.prog ops Q rest (a.put o.dst v1) w1) :
    wpList Try.prog ops Q (o :: rest) a (W.alloc (.cells #[.string p] 9)) := by
  obtain ⟨i0, hi, hzz⟩ := Option.map_eq_some_iff.1 info9
  simp only [Prod.mk.injEq] at hzz
  obtain ⟨hz0, hz1, hz2⟩ := hzz
  obtain ⟨rfl, _⟩ := Kd.R_reads' HO
  have hown := (Kd.own_of_R (enc := Value.string) (h1 := fun _ => rfl) HO).alloc (.cells #[.string p] 9)
  refine wpList_append_grows (W.alloc (.cells #[.string p] 9)) hgd s x 36 ho 9 i0 (.string ⟨#[]⟩) 1 16 Try.underlying36 hi hz0 hz1 hz2 rfl (by decide) A xs.length c (encs Value.string xs) hs ?_ (by simp [encs]) ?_ ⟨W.heap.size, 0, none⟩ 1 1 [.string p] hx rfl
    (by simpa using World.news_of_block (cs := #[.string p]) (t := 9) (fr := (0, 0)) (heap_alloc_new W (.cells #[.string p] 9))) (fun u hu => by simp at hu; subst hu; rfl) hk (by unfold maxLen; omega) (by omega) ?_
  · intro e
    subst e
    rcases hown.2 with ⟨h', h2⟩ | ⟨g', cap', cur, h', _⟩
    · injection h' with _ h3 h4; exact ⟨h3, h4⟩
    · injection h' with h5; cases h5
  · intro b e j u hu
    subst e
    rcases hown.2 with ⟨h', h2⟩ | ⟨g', cap', cur, h', _⟩
    · injection h' with h5; cases h5
    · injection h' with h5
      injection h5 with h5
      subst h5
      exact hown.cells (g := g') rfl j u hu
  · intro v1 w1 hw1 hg
    have hrow := World.grownBy.trans (World.grownBy_alloc W (.cells #[.string p] 9) none) hg
    refine h v1 w1 ?_ hrow
    have e : encs Value.string xs ++ [Value.string p] = encs Value.string (xs ++ [p]) := by simp [encs]
    rw [e] at hw1
    have e2 : xs.length + 1 = (xs ++ [p]).length := by simp
    rw [e2] at hw1
    have hge : W.heap.size ≤ (W.alloc (.cells #[.string p] 9)).heap.size := by simp
    exact Kd.R_lower (Kd.R_of_own (enc := Value.string) (h1 := fun _ => rfl) hw1 (fun i hi => Nat.le_trans hge (own_base hw1 i hi))) hge
end
def rep (n : Nat) (mk : ByteArray) : List ByteArray := List.replicate n mk
theorem rep_length (n : Nat) (mk : ByteArray) : (rep n mk).length = n := by unfold rep; simp
theorem rep_snoc (n : Nat) (mk : ByteArray) : rep n mk ++ [mk] = rep (n + 1) mk := by unfold rep; rw [← List.replicate_succ']
def part (k : Nat) (mk : ByteArray) (xs : List ByteArray) : List ByteArray := rep k mk ++ xs.drop k
theorem part_length (k : Nat) (mk : ByteArray) (xs : List ByteArray) (h : k ≤ xs.length) : (part k mk xs).length = xs.length := by unfold part rep; simp; omega
theorem part_set (k : Nat) (mk : ByteArray) (xs : List ByteArray) (h : k < xs.length) : (part k mk xs).set k mk = part (k + 1) mk xs := by
  unfold part rep
  rw [List.set_append_right _ _ (by simp), List.length_replicate, Nat.sub_self, List.drop_eq_getElem_cons h, List.set_cons_zero, List.replicate_succ', List.append_assoc]
  rfl
theorem part_all (mk : ByteArray) (xs : List ByteArray) : part xs.length mk xs = rep xs.length mk := by unfold part; simp
/-- the blocks of a slice's own row -/
def isOwn (v : Value) (k : Nat) : Prop := v.ownBlock = some k
theorem own_some {g n c : Nat} : isOwn (.slice (some ⟨g, 0, none⟩) n c) g := rfl
theorem Only.row {w w1 w2 : World} {ok : Nat → Prop} (h : Only ok w w1) {row : Option Nat} (hg : w1.grownBy w2 row) (hr : ∀ k, row = some k → k < w.heap.size → ok k) : Only ok w w2 := h.grown hg hr
/-- where the longer list stands: over the same array, or in an array of its own -/
def Longer (w : World) (B : Nat) (A : Option Addr) (n c : Nat) (mk : ByteArray) (v : Value) (j : Nat) (wr : World) : Prop :=
  (v = .slice A (n + j) c ∧ Kd.R Kd.string 9 wr B (isOwn (.slice A n c)) v (rep (n + j) mk)) ∨
  (Kd.R Kd.string 9 wr w.heap.size (fun i => w.heap.size ≤ i) v (rep (n + j) mk) ∧ Kd.R Kd.string 9 wr B (isOwn (.slice A n c)) (.slice A n c) (rep n mk))
theorem R_isOwn {e : Nat} {w : World} {base : Nat} {ok : Nat → Prop} {v : Value} {xs : List ByteArray} (h : Kd.R Kd.string e w base ok v xs) : Kd.R Kd.string e w base (isOwn v) v xs :=
  Kd.R_of_own (enc := Value.string) (h1 := fun _ => rfl) (Kd.own_of_R (enc := Value.string) (h1 := fun _ => rfl) h) (fun _ hk => hk)
theorem R_room {e : Nat} {w : World} {base : Nat} {ok : Nat → Prop} {A : Option Addr} {n c : Nat} {xs : List ByteArray} (h : Kd.R Kd.string e w base ok (.slice A n c) xs) (hc : 0 < c) : ∃ g, A = some ⟨g, 0, none⟩ ∧ base ≤ g ∧ g < w.heap.size := by
  have hown := Kd.own_of_R (enc := Value.string) (h1 := fun _ => rfl) h
  rcases hown.2 with ⟨h', _⟩ | ⟨g, cap, cur, h', hb, hh, _⟩
  · injection h' with _ _ h4; omega
  · injection h' with h5; exact ⟨g, h5, hb, blk_lt hh⟩
set_option maxHeartbeats 4000000 in
set_option maxRecDepth 100000 in
theorem filled_calls (B : Nat) (w : World) (ok : Nat → Prop) (A : Option Addr) (n c : Nat) (xs : List ByteArray) (m : Int) (mk : ByteArray) (hm : PSymbolOwnLists.kilnlaw6_mark.f m = some mk) (hR : Kd.R Kd.string 9 w B ok (.slice A n c) xs) (hn : n ≤ 8796093022000) (hBw : B ≤ w.heap.size) :
    Calls Try.prog 57 #[.slice A n c, .int .i64 m] w fun e w' => ∃ v, e = .returned v ∧ Longer w B A n c mk v 64 w' ∧ Only (isOwn (.slice A n c)) w w' := by
  obtain ⟨hxl, hc, _⟩ := Kd.R_reads' hR
  have HM := Aside0.mk hm
  have HR0 := Aside0.mk hR
  have HX := Aside0.mk hxl
  have HLT := Aside0.mk (Kd.R_lt hR)
  clear hR hm hxl
  go_enter Try.func57, Try.ntmps57
  go_wp2_with fail
  go_loopw [5] (fun i wr => ∃ (k : Nat), i = .int .i64 (k : Int) ∧ k ≤ n ∧ Aside0 (Kd.R Kd.string 9 wr B ok (.slice A n c) (part k mk xs)) ∧ Aside0 (Only (isOwn (.slice A n c)) w wr)) (fun i _ => n - (intOf i).toNat)
  case atStart => exact ⟨0, rfl, by omega, ⟨by unfold part rep; simpa using HR0.out⟩, ⟨Only.refl _ _⟩⟩
  case round =>
    clear HR0
    obtain ⟨k, rfl, hk, HR, HO⟩ := hrel
    by_cases hlt : k < n
    · have b1 : decide ((k : Int) < (n : Int)) = true := decide_eq_true (by omega)
      obtain ⟨g, cap, eg, hg, hgl, _⟩ := Kd.R_form HR.out (by have := HX.out; rw [part_length _ _ _ (by omega)]; omega)
      have eA : A = some ⟨g, 0, none⟩ := by injection eg
      subst eA
      clear eg
      go_wp2_with fail
      refine (PSymbolOwnLists.kilnlaw6_mark.calls m _ _ HM.out).mono ?_; rintro e w5 ⟨rfl, hb5⟩
      have hF5 := Kd.R_below HR.out hb5
      obtain ⟨cl, fz⟩ := Kd.R_celln ByteArray.empty hF5 (k : Int) (by omega) (by omega)
      have HF5 := Aside0.mk hF5
      have HO5 := Aside0.mk (HO.out.below hb5)
      clear hF5 hb5 HR HO
      rw [Int.toNat_natCast] at cl fz
      have i1 : (k : Int) < (n : Int) := by omega
      go_wp2_with fail
      go_roundw
      case rel =>
        refine ⟨k + 1, by go_num, by omega, ⟨?_⟩, ⟨?_⟩⟩
        · have := Kd.R_putn HF5.out (k : Int) mk
          rw [Int.toNat_natCast, part_set _ _ _ (by have := HX.out; omega)] at this; exact this
        · exact HO5.out.setCell (p := ⟨g, k, none⟩) (fun _ => own_some) _
      case measure => simp [intOf]; omega
    · have b1 : decide ((k : Int) < (n : Int)) = false := decide_eq_false (by omega)
      obtain rfl : k = n := by omega
      have HR1 : Aside0 (Kd.R Kd.string 9 wr B ok (.slice A k c) (rep k mk)) := ⟨by have := HR.out; have e := HX.out; rw [e, part_all, ← e] at this; exact this⟩
      go_wp2_with fail
      go_loopw [6, 7] (fun v i wr => ∃ (j : Nat), i = .int .i64 (j : Int) ∧ j ≤ 64 ∧ Aside0 (Longer w B A k c mk v j wr) ∧ Aside0 (Only (isOwn (.slice A k c)) w wr)) (fun _ i _ => 64 - (intOf i).toNat)
      case atStart => exact ⟨0, rfl, by omega, ⟨.inl ⟨rfl, R_isOwn HR1.out⟩⟩, HO⟩
      case round =>
        clear HR1 HR HO
        obtain ⟨j, rfl, hj, HL, HO⟩ := hrel
        by_cases hlt2 : j < 64
        · have b2 : decide ((j : Int) < 64) = true := decide_eq_true (by omega)
          rcases HL.out with ⟨rfl, hv⟩ | ⟨hv, hl⟩
          · have HV := Aside0.mk hv
            clear hv HL
            go_wp2_with fail
            refine (PSymbolOwnLists.kilnlaw6_mark.calls m _ _ HM.out).mono ?_; rintro e w5 ⟨rfl, hb5⟩
            have HV5 := Aside0.mk (Kd.R_below HV.out hb5)
            have HO5 := Aside0.mk (HO.out.below hb5)
            have HS5 := Aside0.mk hb5.size
            clear hb5 HV HO
            by_cases hroom : k + j + 1 ≤ c
            · obtain ⟨g, rfl, hg1, hg2⟩ := R_room HV5.out (by omega)
              go_wp2_with (at_builtin; refine app_room w5 B rfl (.tmp 24) (.tmp 27) rfl g (k + j) c (rep (k + j) mk) mk _ rfl rfl (by exact HV5.out) hroom ?_; intro w6 hr6 hg6; have HR6 := Aside0.mk hr6; have HG6 := Aside0.mk hg6; clear hr6 hg6)
              go_roundw
              case rel => exact ⟨j + 1, by go_num, by omega, ⟨.inl ⟨rfl, by have := HR6.out; rw [rep_snoc] at this; exact this⟩⟩, ⟨HO5.out.row HG6.out (fun q hq _ => hq)⟩⟩
              case measure => simp [intOf]; omega
            · go_wp2_with (at_builtin; refine app_new w5 B rfl (.tmp 24) (.tmp 27) rfl A (k + j) c (rep (k + j) mk) mk _ rfl rfl (by exact HV5.out) (by omega) (by rw [rep_length]; omega) ?_; intro v6 w6 hr6 hg6; have HR6 := Aside0.mk hr6; have HG6 := Aside0.mk hg6; clear hr6 hg6)
              go_roundw
              case rel =>
                refine ⟨j + 1, by go_num, by omega, ⟨.inr ⟨?_, ?_⟩⟩, ⟨HO5.out.row HG6.out (fun q hq _ => by cases hq)⟩⟩
                · have := Kd.R_lower HR6.out (Nat.le_trans HO5.out.size (Nat.le_refl _))
                  rw [rep_snoc] at this
                  exact Kd.R_mono this (fun q hq => Nat.le_trans HO5.out.size hq)
                · have := Kd.R_grown (Kd.R_take (m := k) HV5.out (by rw [rep_length]; omega)) HG6.out (fun _ _ => by simp)
                  unfold rep at this
                  rw [List.take_replicate, Nat.min_eq_left (by omega)] at this
                  exact this
              case measure => simp [intOf]; omega
          · have HV := Aside0.mk hv
            have HLL := Aside0.mk hl
            clear hv hl HL
            obtain ⟨A5, c5, rfl⟩ := Kd.R_slice HV.out
            rw [rep_length] at HV ⊢
            go_wp2_with fail
            refine (PSymbolOwnLists.kilnlaw6_mark.calls m _ _ HM.out).mono ?_; rintro e w5 ⟨rfl, hb5⟩
            have HV5 := Aside0.mk (Kd.R_below HV.out hb5)
            have HL5 := Aside0.mk (Kd.R_below HLL.out hb5)
            have HO5 := Aside0.mk (HO.out.below hb5)
            clear hb5 HV HO HLL
            go_wp2_with (at_builtin; refine Kd.R_append Kd.string (w0 := w5) w.heap.size rfl (.tmp 24) (.tmp 27) 36 9 (.string ⟨#[]⟩) 16 rfl Try.underlying36 info9 rfl (by decide) (by omega) (.slice A5 (k + j) c5) (rep (k + j) mk) mk [.string mk] (fun i => w.heap.size ≤ i) (fun _ => False) rfl rfl rfl (fun _ hk => hk.elim) (fun q hq => Nat.le_trans HO5.out.size (by exact hq)) (by exact HV5.out) (Below.refl _ _) (by exact HO5.out.size) (by rw [rep_length]; omega) ?_; intro v6 w6 hr6 hb6 hg6 hat; have HR6 := Aside0.mk hr6; have HG6 := Aside0.mk hg6; clear hr6 hb6 hg6 hat)
            go_roundw
            case rel =>
              have hvb := Kd.R_base HV5.out
              refine ⟨j + 1, by go_num, by omega, ⟨.inr ⟨?_, ?_⟩⟩, ⟨HO5.out.row HG6.out (fun q hq hl => absurd (hvb q hq) (by omega))⟩⟩
              · have := HR6.out; rw [rep_snoc] at this; exact this
              · exact Kd.R_grown HL5.out HG6.out (fun q hq he => by have := HLT.out q hq; have := hvb q he.symm; omega)
            case measure => simp [intOf]; omega
        · have b2 : decide ((j : Int) < 64) = false := decide_eq_false (by omega)
          obtain rfl : j = 64 := by omega
          go_wp2
          go_ret
          exact ⟨_, rfl, HL.out, HO.out⟩
theorem R_only {α : Type} {d : Kd α} {e : Nat} {w w' : World} {base : Nat} {ok S : Nat → Prop} {v : Value} {xs : List α} (h : d.R e w base ok v xs) (hO : Only S w w') (hd : ∀ k, ok k → ¬ S k) : d.R e w' base ok v xs :=
  Kd.R_step h (fun k hk hl => hO.block k hl (hd k hk))
theorem C_only {w w' : World} {S : Nat → Prop} {A : Option Addr} {n : Nat} {xs : List ByteArray} (h : Kd.C Kd.string w A n xs) (hO : Only S w w') (hd : 0 < n → ∀ ad, A = some ad → ¬ S ad.block) : Kd.C Kd.string w' A n xs := by
  refine ⟨h.1, h.2.1, fun hn => ?_⟩
  obtain ⟨ad, e, hc⟩ := h.2.2 hn
  refine ⟨ad, e, fun j p hj => ?_⟩
  obtain ⟨c, hl, hK, hcell⟩ := hc j p hj
  refine ⟨c, hl, hK, fun i u hu => ?_⟩
  have h1 := hcell i u hu
  have hb := World.block_lt_of_cell? w _ h1
  rw [add_block] at hb
  exact (World.cell?_of_block (hO.block _ (by rw [add_block]; exact hb) (by rw [add_block]; exact hd hn ad e))).trans h1
/-- a slice, as a value that lies in memory -/
structure Head where
  A : Option Addr
  n : Nat
  c : Nat
def hv (h : Head) : Value := .slice h.A h.n h.c
def kh : Kd Head := Kd.scalar hv (fun _ => rfl)
theorem kh_own {e : Nat} {w : World} {base : Nat} {ok : Nat → Prop} {v : Value} {xs : List Head} (h : Kd.R kh e w base ok v xs) : Kd.R kh e w base (isOwn v) v xs :=
  Kd.R_of_own (enc := hv) (h1 := fun _ => rfl) (Kd.own_of_R (enc := hv) (h1 := fun _ => rfl) h) (fun _ hk => hk)
def mkOf (j : Int) : ByteArray := strOfNums [35, j % 256, (wrap64 (Int.tdiv j 256)) % 256, (wrap64 (Int.tdiv j 65536)) % 256]
theorem mkOf_f (j : Int) : PSymbolOwnLists.kilnlaw6_mark.f j = some (mkOf j) := rfl
/-- a list that is full of one mark, in blocks of F, none of the bad ones -/
def Marked (wr : World) (F : Nat → Prop) (bad : Nat → Prop) (h : Head) (mk : ByteArray) : Prop :=
  h.n ≤ h.c ∧ Kd.C Kd.string wr h.A h.n (rep h.n mk) ∧ (0 < h.n → ∀ ad, h.A = some ad → ¬ bad ad.block ∧ F ad.block)
theorem Marked.turn {wr w' : World} {F F' : Nat → Prop} {bad bad' S : Nat → Prop} {h : Head} {mk : ByteArray} (H : Marked wr F bad h mk) (hO : Only S wr w') (hS : ∀ k, F k → S k → bad k) (hF : ∀ k, F k → F' k) (hb : ∀ k, F k → bad' k → bad k) : Marked w' F' bad' h mk :=
  ⟨H.1, C_only H.2.1 hO (fun hn ad e hs => (H.2.2 hn ad e).1 (hS _ (H.2.2 hn ad e).2 hs)), fun hn ad e => ⟨fun hb' => (H.2.2 hn ad e).1 (hb _ (H.2.2 hn ad e).2 hb'), hF _ (H.2.2 hn ad e).2⟩⟩
def badOf (ok : Nat → Prop) (vL vM : Value) (k : Nat) : Prop := ok k ∨ isOwn vL k ∨ isOwn vM k
/-- the law's memory: the shelf, the list of lists, the list of the longer ones; of both the first cL (cM) are full of their marks -/
structure Lists (B : Nat) (w : World) (g : Nat) (F : Nat → Prop) (st : Nat → St) (ok : Nat → Prop) (vL vM : Value) (Ls Ms : List Head) (cL cM : Nat) (wr : World) : Prop where
  sh : OnShelf B w g st ok wr
  L : Kd.R kh 36 wr B (isOwn vL) vL Ls
  M : Kd.R kh 36 wr B (isOwn vM) vM Ms
  apL : ∀ k, isOwn vL k → ¬ ok k ∧ ¬ isOwn vM k
  apM : ∀ k, isOwn vM k → ¬ ok k
  ml : ∀ j h, j < cL → Ls[j]? = some h → Marked wr F (badOf ok vL vM) h (mkOf j)
  mm : ∀ j h, j < cM → Ms[j]? = some h → Marked wr F (badOf ok vL vM) h (mkOf j)
  FF : ∀ k, F k → k < wr.heap.size
theorem OnShelf.lt {B : Nat} {w : World} {g : Nat} {st : Nat → St} {ok : Nat → Prop} {wr : World} (h : OnShelf B w g st ok wr) (k : Nat) (hk : ok k) : B ≤ k ∧ k < wr.heap.size := by
  obtain ⟨x, y, a, b, h, hok⟩ := h
  rcases (hok k).1 hk with rfl | q | q | q | q
  · exact ⟨h.own.1, blk_lt h.blk⟩
  · exact (h.pair 0 (by omega)).own1 k q
  · exact (h.pair 0 (by omega)).own2 k q
  · exact (h.pair 1 (by omega)).own1 k q
  · exact (h.pair 1 (by omega)).own2 k q
theorem OnShelf.other {B : Nat} {w : World} {g : Nat} {st : Nat → St} {ok S : Nat → Prop} {wr w' : World} (h : OnShelf B w g st ok wr) (hle : B ≤ w.heap.size) (hO : Only S wr w') (hS : ∀ k, S k → B ≤ k ∧ ¬ ok k) : OnShelf B w g st ok w' := by
  obtain ⟨x, y, a, b, h, hok⟩ := h
  have key : ∀ j, j < 2 → ∀ i, S i → ¬ a j i ∧ ¬ b j i := fun j hj i hi => by
    have hn := (hS i hi).2
    have hj' : j = 0 ∨ j = 1 := by omega
    rcases hj' with rfl | rfl
    · exact ⟨fun q => hn ((hok i).2 (.inr (.inl q))), fun q => hn ((hok i).2 (.inr (.inr (.inl q))))⟩
    · exact ⟨fun q => hn ((hok i).2 (.inr (.inr (.inr (.inl q))))), fun q => hn ((hok i).2 (.inr (.inr (.inr (.inr q)))))⟩
  refine ⟨x, y, a, b, ⟨(hO.block g (blk_lt h.blk) (fun q => (hS g q).2 ((hok g).2 (.inl rfl)))).trans h.blk, fun k hk => (h.pair k hk).other hle hO (fun i hi => ⟨(hS i hi).1, key k hk i hi⟩), h.apart, h.own⟩, hok⟩
section
variable {B : Nat} {w : World} {g : Nat} {F : Nat → Prop} {st : Nat → St} {ok : Nat → Prop} {vL vM : Value} {Ls Ms : List Head} {cL cM : Nat} {wr w' : World}
/-- blocks beyond F, none of the lists' own, have turned -/
theorem Lists.turn (h : Lists B w g F st ok vL vM Ls Ms cL cM wr) (hle : B ≤ w.heap.size) {S : Nat → Prop} (hO : Only S wr w') (hS : ∀ k, S k → (B ≤ k ∧ ¬ F k) ∧ ¬ badOf ok vL vM k) : Lists B w g F st ok vL vM Ls Ms cL cM w' where
  sh := h.sh.other hle hO (fun k hk => ⟨(hS k hk).1.1, fun q => (hS k hk).2 (.inl q)⟩)
  L := R_only h.L hO (fun k hk q => (hS k q).2 (.inr (.inl hk)))
  M := R_only h.M hO (fun k hk q => (hS k q).2 (.inr (.inr hk)))
  apL := h.apL
  apM := h.apM
  ml := fun j x hj hx => (h.ml j x hj hx).turn hO (fun k hk q => absurd hk (hS k q).1.2) (fun _ q => q) (fun _ _ q => q)
  mm := fun j x hj hx => (h.mm j x hj hx).turn hO (fun k hk q => absurd hk (hS k q).1.2) (fun _ q => q) (fun _ _ q => q)
  FF := fun k hk => Nat.lt_of_lt_of_le (h.FF k hk) hO.size
theorem Lists.step (h : Lists B w g F st ok vL vM Ls Ms cL cM wr) (hle : B ≤ w.heap.size) (hb : Below wr.heap.size wr w') : Lists B w g F st ok vL vM Ls Ms cL cM w' :=
  h.turn hle ((Only.refl (fun _ => False) wr).below hb) (fun _ q => q.elim)
theorem Lists.drewN (h : Lists B w g F st ok vL vM Ls Ms cL cM wr) (hle : B ≤ w.heap.size) (n : Nat) : Lists B w g F st ok vL vM Ls Ms cL cM (wr.drewN n) :=
  h.turn hle ((Only.refl (fun _ => False) wr).drewN n) (fun _ q => q.elim)
/-- F may rise to the heap's size -/
theorem Lists.rise (h : Lists B w g F st ok vL vM Ls Ms cL cM wr) : Lists B w g (fun k => k < wr.heap.size) st ok vL vM Ls Ms cL cM wr :=
  { h with ml := fun j x hj hx => (h.ml j x hj hx).turn (Only.refl (fun _ => False) wr) (fun _ _ q => q.elim) h.FF (fun _ _ q => q), mm := fun j x hj hx => (h.mm j x hj hx).turn (Only.refl (fun _ => False) wr) (fun _ _ q => q.elim) h.FF (fun _ _ q => q), FF := fun _ q => q }
theorem Lists.played (h : Lists B w g F st ok vL vM Ls Ms cL cM wr) (hle : B ≤ w.heap.size) (hp : Played B w g ok wr w') : ∃ st' ok', Lists B w g F st' ok' vL vM Ls Ms cL cM w' := by
  obtain ⟨st', ok', hsh, hg, hO⟩ := hp
  have nL : ∀ k, isOwn vL k → ¬ ok' k := fun k hk q => (hg k q).elim (h.apL k hk).1 (fun z => by have := Kd.R_lt h.L k hk; omega)
  have nM : ∀ k, isOwn vM k → ¬ ok' k := fun k hk q => (hg k q).elim (h.apM k hk) (fun z => by have := Kd.R_lt h.M k hk; omega)
  have hbad : ∀ k, F k → badOf ok' vL vM k → badOf ok vL vM k := fun k hk q => by
    rcases q with q | q
    · exact (hg k q).elim .inl (fun z => by have := h.FF k hk; omega)
    · exact .inr q
  exact ⟨st', ok', hsh, R_only h.L hO (fun k hk => (h.apL k hk).1), R_only h.M hO (fun k hk => h.apM k hk), fun k hk => ⟨nL k hk, (h.apL k hk).2⟩, nM,
    fun j x hj hx => (h.ml j x hj hx).turn hO (fun k _ q => .inl q) (fun _ q => q) hbad, fun j x hj hx => (h.mm j x hj hx).turn hO (fun k _ q => .inl q) (fun _ q => q) hbad, fun k hk => Nat.lt_of_lt_of_le (h.FF k hk) hO.size⟩
/-- a list is put behind the lists -/
theorem Lists.appL (h : Lists B w g F st ok vL vM Ls Ms cL cM wr) (hle : B ≤ w.heap.size) (hc : cL ≤ Ls.length) {vL' : Value} {ok' : Nat → Prop} {x : Head} (hR : Kd.R kh 36 w' B ok' vL' (Ls ++ [x])) (hG : wr.grownBy w' vL.ownBlock) (hat : vL'.ownBlock = vL.ownBlock ∨ ∃ b, vL'.ownBlock = some b ∧ wr.heap.size ≤ b) :
    Lists B w g F st ok vL' vM (Ls ++ [x]) Ms cL cM w' ∧ (∀ k, badOf ok vL' vM k → badOf ok vL vM k ∨ wr.heap.size ≤ k) ∧ Only (isOwn vL) wr w' := by
  have hO : Only (isOwn vL) wr w' := (Only.refl _ wr).row hG (fun k hk _ => hk)
  have hown : ∀ k, isOwn vL' k → isOwn vL k ∨ wr.heap.size ≤ k := fun k hk => by
    rcases hat with e | ⟨b, e, hb⟩
    · exact .inl (e.symm.trans hk)
    · obtain rfl : b = k := Option.some.inj (e.symm.trans hk)
      exact .inr hb
  have hbad : ∀ k, badOf ok vL' vM k → badOf ok vL vM k ∨ wr.heap.size ≤ k := fun k q => by
    rcases q with q | q | q
    · exact .inl (.inl q)
    · exact (hown k q).imp (fun z => .inr (.inl z)) id
    · exact .inl (.inr (.inr q))
  have hbF : ∀ k, F k → badOf ok vL' vM k → badOf ok vL vM k := fun k hk q => (hbad k q).elim id (fun z => by have := h.FF k hk; omega)
  refine ⟨⟨h.sh.other hle hO (fun k hk => ⟨Kd.R_base h.L k hk, (h.apL k hk).1⟩), kh_own hR, R_only h.M hO (fun k hk q => (h.apL k q).2 hk), fun k hk => ?_, h.apM, ?_, ?_, fun k hk => Nat.lt_of_lt_of_le (h.FF k hk) hO.size⟩, hbad, hO⟩
  · rcases hown k hk with q | q
    · exact h.apL k q
    · exact ⟨fun z => by have := (h.sh.lt k z).2; omega, fun z => by have := Kd.R_lt h.M k z; omega⟩
  · intro j y hj hy
    rw [List.getElem?_append_left (by omega)] at hy
    exact (h.ml j y hj hy).turn hO (fun k _ q => .inr (.inl q)) (fun _ q => q) hbF
  · exact fun j y hj hy => (h.mm j y hj hy).turn hO (fun k _ q => .inr (.inl q)) (fun _ q => q) hbF
theorem Lists.appM (h : Lists B w g F st ok vL vM Ls Ms cL cM wr) (hle : B ≤ w.heap.size) (hc : cM ≤ Ms.length) {vM' : Value} {ok' : Nat → Prop} {x : Head} (hR : Kd.R kh 36 w' B ok' vM' (Ms ++ [x])) (hG : wr.grownBy w' vM.ownBlock) (hat : vM'.ownBlock = vM.ownBlock ∨ ∃ b, vM'.ownBlock = some b ∧ wr.heap.size ≤ b) :
    Lists B w g F st ok vL vM' Ls (Ms ++ [x]) cL cM w' ∧ (∀ k, badOf ok vL vM' k → badOf ok vL vM k ∨ wr.heap.size ≤ k) ∧ Only (isOwn vM) wr w' := by
  have hO : Only (isOwn vM) wr w' := (Only.refl _ wr).row hG (fun k hk _ => hk)
  have hown : ∀ k, isOwn vM' k → isOwn vM k ∨ wr.heap.size ≤ k := fun k hk => by
    rcases hat with e | ⟨b, e, hb⟩
    · exact .inl (e.symm.trans hk)
    · obtain rfl : b = k := Option.some.inj (e.symm.trans hk)
      exact .inr hb
  have hbad : ∀ k, badOf ok vL vM' k → badOf ok vL vM k ∨ wr.heap.size ≤ k := fun k q => by
    rcases q with q | q | q
    · exact .inl (.inl q)
    · exact .inl (.inr (.inl q))
    · exact (hown k q).imp (fun z => .inr (.inr z)) id
  have hbF : ∀ k, F k → badOf ok vL vM' k → badOf ok vL vM k := fun k hk q => (hbad k q).elim id (fun z => by have := h.FF k hk; omega)
  refine ⟨⟨h.sh.other hle hO (fun k hk => ⟨Kd.R_base h.M k hk, h.apM k hk⟩), R_only h.L hO (fun k hk q => (h.apL k hk).2 q), kh_own hR, fun k hk => ⟨(h.apL k hk).1, fun q => ?_⟩, fun k hk => ?_, ?_, ?_, fun k hk => Nat.lt_of_lt_of_le (h.FF k hk) hO.size⟩, hbad, hO⟩
  · rcases hown k q with z | z
    · exact (h.apL k hk).2 z
    · have := Kd.R_lt h.L k hk; omega
  · rcases hown k hk with q | q
    · exact h.apM k q
    · exact fun z => by have := (h.sh.lt k z).2; omega
  · exact fun j y hj hy => (h.ml j y hj hy).turn hO (fun k _ q => .inr (.inr q)) (fun _ q => q) hbF
  · intro j y hj hy
    rw [List.getElem?_append_left (by omega)] at hy
    exact (h.mm j y hj hy).turn hO (fun k _ q => .inr (.inr q)) (fun _ q => q) hbF
/-- the next list, and the longer one, are full of their mark -/
theorem Lists.commit {x y : Head} {F' : Nat → Prop} (h : Lists B w g F st ok vL vM (Ls ++ [x]) (Ms ++ [y]) Ls.length Ms.length wr) (hF : ∀ k, F k → F' k) (hF' : ∀ k, F' k → k < wr.heap.size) (hx : Marked wr F' (badOf ok vL vM) x (mkOf Ls.length)) (hy : Marked wr F' (badOf ok vL vM) y (mkOf Ms.length)) :
    Lists B w g F' st ok vL vM (Ls ++ [x]) (Ms ++ [y]) (Ls.length + 1) (Ms.length + 1) wr := by
  refine { h with ml := fun j z hj hz => ?_, mm := fun j z hj hz => ?_, FF := hF' }
  · by_cases e : j < Ls.length
    · exact (h.ml j z e hz).turn (Only.refl (fun _ => False) wr) (fun _ _ q => q.elim) hF (fun _ _ q => q)
    · obtain rfl : j = Ls.length := by omega
      rw [List.getElem?_concat_length] at hz
      cases hz
      exact hx
  · by_cases e : j < Ms.length
    · exact (h.mm j z e hz).turn (Only.refl (fun _ => False) wr) (fun _ _ q => q.elim) hF (fun _ _ q => q)
    · obtain rfl : j = Ms.length := by omega
      rw [List.getElem?_concat_length] at hz
      cases hz
      exact hy
end
theorem texts_small {w : World} {ok : Nat → Prop} {x : Option Addr} {st : St} (h : PT w ok x st) : (textsOf st).length ≤ 4096 := by
  cases st with
  | none => exact Nat.zero_le _
  | some p =>
    obtain ⟨g, rfl, T⟩ := h
    have := T.good.le
    have := T.good.cap
    show p.2.length ≤ 4096
    omega
theorem info36 : (Try.prog.info? 36).map (fun i => (i.zero, i.size, i.bytes)) = some (some (.slice none 0 0), 1, 24) := by kernel_rfl
section
variable {B : Nat} {w : World} {g : Nat} {F : Nat → Prop} {st : Nat → St} {ok : Nat → Prop} {vL vM : Value} {Ls Ms : List Head} {cL cM : Nat} {wr w' : World}
theorem Lists.lt (h : Lists B w g F st ok vL vM Ls Ms cL cM wr) (k : Nat) (hk : badOf ok vL vM k) : k < wr.heap.size := by
  rcases hk with q | q | q
  · exact (h.sh.lt k q).2
  · exact Kd.R_lt h.L k q
  · exact Kd.R_lt h.M k q
theorem Longer.reads {w0 : World} {Bv : Nat} {A : Option Addr} {n c : Nat} {mk : ByteArray} {v : Value} {j : Nat} (h : Longer w0 Bv A n c mk v j wr) (hs : w0.heap.size ≤ wr.heap.size) :
    (n ≤ c ∧ Kd.C Kd.string wr A n (rep n mk)) ∧ ∃ A2 c2, v = .slice A2 (n + j) c2 ∧ n + j ≤ c2 ∧ Kd.C Kd.string wr A2 (n + j) (rep (n + j) mk) ∧ (0 < n + j → ∀ ad, A2 = some ad → (isOwn (.slice A n c) ad.block ∨ w0.heap.size ≤ ad.block) ∧ ad.block < wr.heap.size) := by
  rcases h with ⟨rfl, h⟩ | ⟨h, h2⟩
  · obtain ⟨h1, h2, h3⟩ := Kd.R_reads' h
    have ht := Kd.C_take (m := n) h3 (by rw [rep_length]; omega)
    rw [rep_length] at h3
    unfold rep at ht
    rw [List.take_replicate, Nat.min_eq_left (by omega), List.length_replicate] at ht
    refine ⟨⟨by omega, ht⟩, A, c, rfl, h2, h3, fun hn ad e => ?_⟩
    subst e
    exact ⟨.inl rfl, Kd.R_lt h _ rfl⟩
  · obtain ⟨h1, h3, h4⟩ := Kd.R_reads' h2
    rw [rep_length] at h4
    obtain ⟨A2, c2, rfl, k2, hC⟩ := Kd.R_reads h
    rw [rep_length] at hC k2
    rw [rep_length]
    refine ⟨⟨h3, h4⟩, A2, c2, rfl, k2, hC, fun hn ad e => ?_⟩
    subst e
    rw [rep_length] at h
    exact ⟨.inr (Kd.R_base h _ rfl), Kd.R_lt h _ rfl⟩
/-- the end of half a round: the longer list has been put behind the others -/
theorem Lists.half {w6 w7 : World} {Bv : Nat} {A : Option Addr} {n c : Nat} {v2 : Value} {y : Head} (hle : B ≤ w.heap.size) (h : Lists B w g F st ok vL vM (Ls ++ [⟨A, n, c⟩]) Ms Ls.length Ms.length w7) (hlen : Ls.length = Ms.length) (h6 : ∀ k, badOf ok vL vM k → k < w6.heap.size)
    (hs : w6.heap.size ≤ w7.heap.size) (hLg : Longer w6 Bv A n c (mkOf Ms.length) v2 64 w7) (nb : ∀ k, isOwn (.slice A n c) k → ¬ badOf ok vL vM k) (nlt : ∀ k, isOwn (.slice A n c) k → k < w6.heap.size) (hy : v2 = hv y)
    {vM' : Value} {ok' : Nat → Prop} (hR : Kd.R kh 36 w' B ok' vM' (Ms ++ [y])) (hG : w7.grownBy w' vM.ownBlock) (hat : vM'.ownBlock = vM.ownBlock ∨ ∃ b, vM'.ownBlock = some b ∧ w7.heap.size ≤ b) :
    Lists B w g (fun k => F k ∨ isOwn (.slice A n c) k ∨ (w6.heap.size ≤ k ∧ k < w'.heap.size)) st ok vL vM' (Ls ++ [⟨A, n, c⟩]) (Ms ++ [y]) (Ls ++ [(⟨A, n, c⟩ : Head)]).length (Ms ++ [y]).length w' ∧ (∀ k, badOf ok vL vM' k → badOf ok vL vM k ∨ w7.heap.size ≤ k) ∧ Only (isOwn vM) w7 w' := by
  obtain ⟨h3, hbad, hO⟩ := h.appM hle (Nat.le_refl _) hR hG hat
  obtain ⟨⟨hnc, hC⟩, A2, c2, e2, k2, hC2, hb2⟩ := hLg.reads hs
  have ey : y = ⟨A2, n + 64, c2⟩ := by
    rw [e2] at hy
    cases y
    injection hy with q1 q2 q3
    subst q1; subst q2; subst q3; rfl
  subst ey
  have nbad : ∀ k, k < w7.heap.size → ¬ badOf ok vL vM k → ¬ badOf ok vL vM' k := fun k hk hn q => (hbad k q).elim hn (fun z => by omega)
  have hx : Marked w' (fun k => F k ∨ isOwn (.slice A n c) k ∨ (w6.heap.size ≤ k ∧ k < w'.heap.size)) (badOf ok vL vM') ⟨A, n, c⟩ (mkOf Ls.length) := by
    rw [hlen]
    refine ⟨hnc, C_only hC hO (fun hn ad e q => nb ad.block (by subst e; rfl) (.inr (.inr q))), fun hn ad e => ?_⟩
    have ho : isOwn (.slice A n c) ad.block := by rw [show A = some ad from e]; rfl
    have := nlt _ ho
    exact ⟨nbad _ (by omega) (nb _ ho), .inr (.inl ho)⟩
  have hy' : Marked w' (fun k => F k ∨ isOwn (.slice A n c) k ∨ (w6.heap.size ≤ k ∧ k < w'.heap.size)) (badOf ok vL vM') ⟨A2, n + 64, c2⟩ (mkOf Ms.length) := by
    have key : ∀ ad, A2 = some ad → ¬ badOf ok vL vM ad.block ∧ ad.block < w7.heap.size ∧ (isOwn (.slice A n c) ad.block ∨ w6.heap.size ≤ ad.block) := fun ad e => by
      obtain ⟨q, hl⟩ := hb2 (by omega) ad e
      exact ⟨q.elim (nb _) (fun z q' => by have := h6 _ q'; omega), hl, q⟩
    refine ⟨k2, C_only hC2 hO (fun hn ad e q => (key ad e).1 (.inr (.inr q))), fun hn ad e => ⟨nbad _ (key ad e).2.1 (key ad e).1, .inr ?_⟩⟩
    exact (key ad e).2.2.imp id (fun z => ⟨z, Nat.lt_of_lt_of_le (key ad e).2.1 hO.size⟩)
  have hcm := h3.commit (F' := fun k => F k ∨ isOwn (.slice A n c) k ∨ (w6.heap.size ≤ k ∧ k < w'.heap.size)) (fun k q => .inl q) (fun k q => by
    rcases q with q | q | q
    · exact h3.FF k q
    · have := nlt k q; have := hO.size; omega
    · exact q.2) hx hy'
  refine ⟨?_, hbad, hO⟩
  rw [List.length_append, List.length_append]
  exact hcm
end
end Go.Proofs.Ytcnjdgafemgaeaa.Sym
