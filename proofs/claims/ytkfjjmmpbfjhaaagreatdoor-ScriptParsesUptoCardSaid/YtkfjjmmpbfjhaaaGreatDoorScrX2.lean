/- Rows of acts grown, and the makers of the room's readers. script's reader of a line, the room's line, walked. Conditions: those that each theorem states. -/
import Derived.Test.YtkfjjmmpbfjhaaaGreatDoorScrN
import Derived.Test.YtkfjjmmpbfjhaaaGreatDoorScrZ2
import Derived.Test.YtkfjjmmpbfjhaaaGreatDoorScrK1
namespace Go.Proofs.YtkfjjmmpbfjhaaaGreatDoor.Tells
open Go.RowKit Go.Proofs.YtkfjjmmpbfjhaaaGreatDoor.Facts Go.Proofs.YtkfjjmmpbfjhaaaGreatDoor.PScriptActs Go.Proofs.YtkfjjmmpbfjhaaaGreatDoorW.PrintWords Go.Proofs.YtkfjjmmpbfjhaaaGreatDoorW.PrintLast Go.Proofs.YtkfjjmmpbfjhaaaGreatDoorW.PrintMore
attribute [local go_sem] max2_int min2_int max_two min_two max_three min_three max_four min_four
set_option linter.unusedVariables false
set_option linter.unusedSimpArgs false
/-- one element more behind a row of acts: the run, and what is known of it -/
theorem run_append_row (W : World) (b : Nat) (v : Value) (xs : List S31) (cs : List Value) (ad : Addr) (c ty : Nat) (okv okp : Nat → Prop) (hap : ∀ k, okp k → ¬ okv k) (HO : Kd.S k31 31 W b okv v xs) (hcell : ∀ j u, cs[j]? = some u → W.cell? (ad.add j) = some u) (hlen : cs.length = 7) (hone : ∀ u ∈ cs, u.oneCell' = true) (hbase : b ≤ W.heap.size) (hl : xs.length ≤ 1073741824) :
    ∃ v1 w1, (Builtin.append_ #[22, 22] ty #[v, .slice (some ad) 1 c]).run Tryz.prog W = .ok v1 w1 ∧ W.grownBy w1 v.ownBlock ∧ (∀ k, v.ownBlock = some k → b ≤ k) ∧ (∃ A c1, v1 = .slice A (xs.length + 1) c1) ∧ ∀ p, k31.M W b okp p cs → Kd.S k31 31 w1 b (fun _ => True) v1 (xs ++ [p]) := by
  obtain ⟨i0, hi, hzz⟩ := Option.map_eq_some_iff.1 info31z
  simp only [Prod.mk.injEq] at hzz
  obtain ⟨hz0, hz1, hz2⟩ := hzz
  obtain ⟨f, hf, hR⟩ := Kd.S_tag HO xs.length okp hap
  have hv : ∀ k, v.ownBlock = some k → okv k := hR.1
  obtain ⟨h0, inner, hown, hr⟩ := Kd.R_mono (ok' := fun _ => True) hR (fun _ _ => trivial)
  rw [List.length_zipIdx] at hown
  obtain ⟨v1, w1, hrun, h2, hg, hm, hat⟩ := run_append_own_at (P := Tryz.prog) (w := W) b 22 ty 31 i0 _ 7 96 Tryz.underlying22 hi hz0 hz1 hz2 (by decide) (by decide) v xs.length inner hown ad 1 c cs (by rw [hlen]) hcell hone (by simp only [maxLen]; omega) (by omega) hbase
  refine ⟨v1, w1, hrun, hg, ?_, ?_, fun p hp => ⟨f, ?_⟩⟩
  · intro k hk
    exact own_base hown k hk
  · rcases h2.2 with ⟨hv1, hn⟩ | ⟨gg, cap', cur, hv1, _⟩
    · omega
    · exact ⟨_, _, hv1⟩
  · rw [Kd.zip_snoc]
    refine Kd.R_appended (okp := okp) h0 hr (p := (p, xs.length)) (Kd.M_mono k31 (fun k hk => ⟨hk, hf k hk⟩) hp) (fun k hk => ⟨trivial, fun e => hap k hk (hv k e.symm)⟩) (fun _ _ => trivial) (by rw [List.length_zipIdx]; exact h2) hg ?_
    rcases hat with h | h
    · exact .inl h
    · exact .inr ⟨_, h, Nat.le_refl _⟩
end Go.Proofs.YtkfjjmmpbfjhaaaGreatDoor.Tells
namespace Go.Proofs.YtkfjjmmpbfjhaaaGreatDoor.Tells
open Go.RowKit Go.Proofs.YtkfjjmmpbfjhaaaGreatDoor.Facts Go.Proofs.YtkfjjmmpbfjhaaaGreatDoor.PScriptActs Go.Proofs.YtkfjjmmpbfjhaaaGreatDoorW.PrintWords Go.Proofs.YtkfjjmmpbfjhaaaGreatDoorW.PrintLast Go.Proofs.YtkfjjmmpbfjhaaaGreatDoorW.PrintMore
attribute [local go_sem] max2_int min2_int max_two min_two max_three min_three max_four min_four
set_option linter.unusedVariables false
set_option linter.unusedSimpArgs false
/-- a reader's cells: the room, the acts, the place -/
def rdC (p0 p1 : Int) (v : Value) (pl : Int) : Array Value := #[.int .i64 p0, .int .i64 p1, v, .int .i64 pl]
def tyR (i : Nat) : Bool := false
def roomP : List Place := [(false, 0), (false, 1)]
/-- what is known where a line is read -/
structure LineIn (w : World) (g : Nat) (cs : Array Value) (A : Option Addr) (ws : List ByteArray) : Prop where
  blk : w.heap[g]? = some (.cells cs 76 (0, 0))
  keep : ∀ W o, Wrote w g o W → Kd.C Kd.string W A ws.length ws
  env : ∀ W o, Wrote w g o W → Env W
  len : ∀ s ∈ ws, s.size ≤ 1073741824
  ne : 0 < ws.length
theorem LineIn.put {w w1 : World} {g : Nat} {cs cs1 : Array Value} {A : Option Addr} {ws : List ByteArray} (h : LineIn w g cs A ws) (hw : Wrote w g (.cells cs1 76 (0, 0)) w1) : LineIn w1 g cs1 A ws :=
  ⟨hw.at_, fun W o h2 => h.keep W o (hw.again h2), fun W o h2 => h.env W o (hw.again h2), h.len, h.ne⟩
/-- the words behind the first -/
def tailA (A : Option Addr) (c : Nat) : Option Addr := if c = 1 then A else A.map (·.add 1)
theorem LineIn.tail {w : World} {g : Nat} {cs : Array Value} {A : Option Addr} {ws : List ByteArray} (h : LineIn w g cs A ws) {c : Nat} (hc : ws.length ≤ c) (W : World) (o : Obj) (hW : Wrote w g o W) : Kd.C Kd.string W (tailA A c) ws.tail.length ws.tail := by
  have := Kd.C_drop (m := 1) (h.keep W o hW) h.ne hc
  rw [List.drop_one] at this
  exact this
/-- from, over the reader's own two numbers -/
theorem room_from {w w1 : World} {g : Nat} {p0 p1 : Int} {v x : Value} {A : Option Addr} {ws : List ByteArray} (c : Nat) (hI : LineIn w g (rdC p0 p1 v 1) A ws) (hb : Below w.heap.size w w1) (hw : isWant g roomP x w1) (hc : ws.length ≤ c) (hn : ws.length ≤ 1073741824) (hr : ws.getD 0 ByteArray.empty = roomB) :
    Calls Tryz.prog 54 #[x, .slice (tailA A c) (ws.length - 1) (c - 1)] w1 fun e w' => e = .returned (.int .i64 (codeRoom ws)) ∧ ∃ cs', Wrote w g (.cells cs' 76 (0, 0)) w' ∧ (codeRoom ws = 0 → cs' = rdC (numN (bl (ws.getD 1 ByteArray.empty))) (numN (bl (ws.getD 2 ByteArray.empty))) v 1) := by
  obtain ⟨r, fs, rfl, hfl, hrg, hrow, hbox⟩ := hw
  have hlen : fs.length = 2 := by rw [← List.length_map (f := Slot.pl), hfl]; rfl
  have hW := Wrote.of hb hI.blk
  have hne := hI.ne
  have htl : ws.tail.length = ws.length - 1 := List.length_tail
  have hT : ∀ W o, Wrote w g o W → Kd.C Kd.string W (tailA A c) ws.tail.length ws.tail := fun W o h => hI.tail hc W o h
  by_cases hll : ws.length = 3
  · obtain ⟨x0, x1, x2, rfl⟩ : ∃ x0 x1 x2, ws = [x0, x1, x2] := by
      rcases ws with _ | ⟨a, _ | ⟨b, _ | ⟨d, _ | ⟨e, l⟩⟩⟩⟩ <;> simp at hll
      exact ⟨a, b, d, rfl⟩
    have hcd : codeRoom [x0, x1, x2] = if (numW (bl x1)).isSome = true ∧ (numW (bl x2)).isSome = true then 0 else 244 := by
      unfold codeRoom
      rw [if_pos hr, if_pos (show [x0, x1, x2].length = 3 from rfl)]
      rfl
    have hoks : oksP roomP [x1, x2] = ((numW (bl x1)).isSome && (numW (bl x2)).isSome) := by simp [oksP, okP, roomP]
    have hty : Typed tyR fs (rdC p0 p1 v 1) := by
      intro s hs
      have hp : s.pl ∈ roomP := by rw [← hfl]; exact List.mem_map.2 ⟨s, hs, rfl⟩
      simp only [roomP, List.mem_cons, List.not_mem_nil, or_false] at hp
      unfold Slot.pl at hp
      rcases hp with h | h <;> (injection h with h1 h2; rw [h1, h2]) <;> exact ⟨rfl, _, rfl⟩
    have hF : From w1 g 76 (rdC p0 p1 v 1) tyR r fs (tailA A c) [x1, x2] := ⟨hW.at_, hty, hrow, hrg, hbox, hT _ _ hW, fun W o h => hT W o (hW.again h), fun W o h => hI.env W o (hW.again h)⟩
    have := from_calls' w1 g 76 (rdC p0 p1 v 1) tyR r fs (tailA A c) [x1, x2] (c - 1) hF hlen (fun s hs => hI.len s (List.mem_cons_of_mem _ hs)) (by omega) (by show 2 ≤ c - 1; have : 3 ≤ c := hc; omega) (codeRoom [x0, x1, x2])
      ⟨fun h => by rw [oks_pl, hfl, hoks, Bool.and_eq_true] at h; rw [hcd, if_pos h], fun h => by rw [oks_pl, hfl, hoks] at h; rw [hcd, if_neg (by rw [← Bool.and_eq_true, h]; decide)]⟩
    refine this.mono ?_
    rintro e w' ⟨he, cs', h1, h2, _⟩
    refine ⟨he, cs', hW.again h1, fun h0 => ?_⟩
    have hok : oksP roomP [x1, x2] = true := by
      rw [hoks, Bool.and_eq_true]
      rw [hcd] at h0
      by_cases h : (numW (bl x1)).isSome = true ∧ (numW (bl x2)).isSome = true
      · exact h
      · rw [if_neg h] at h0; cases h0
    rw [h2 (by rw [oks_pl, hfl]; exact hok), puts_pl, hfl]
    rfl
  · have hcd : codeRoom ws = 243 := by
      unfold codeRoom
      rw [if_pos hr, if_neg hll]
    have := from_words (some ⟨r, 0, none⟩) (tailA A c) fs.length (ws.length - 1) (c - 1) fs.length (by omega) w1
    refine this.mono ?_
    rintro e w' ⟨he, rfl⟩
    exact ⟨by rw [he, hcd], _, hW, fun h => by rw [hcd] at h; cases h⟩
set_option maxHeartbeats 4000000 in
set_option maxRecDepth 100000 in
theorem line_room (w : World) (g : Nat) (p0 p1 : Int) (v : Value) (A : Option Addr) (ws : List ByteArray) (c : Nat) (hI : LineIn w g (rdC p0 p1 v 0) A ws) (hc : ws.length ≤ c) (hn : ws.length ≤ 1073741824) :
    Calls Tryz.prog 35 #[.pointer (some ⟨g, 0, none⟩), .slice A ws.length c] w fun e w' => e = .returned (.int .i64 (codeRoom ws)) ∧ ∃ cs', Wrote w g (.cells cs' 76 (0, 0)) w' ∧ (codeRoom ws = 0 → cs' = rdC (numN (bl (ws.getD 1 ByteArray.empty))) (numN (bl (ws.getD 2 ByteArray.empty))) v 1) := by
  have hgl : g < w.heap.size := blk_lt hI.blk
  have hne := hI.ne
  have hC := hI.keep w _ (Wrote.of (Below.refl _ _) hI.blk)
  obtain ⟨ad, rfl, hcell⟩ := Kd.at_string hC (0 : Int) (by omega) (by omega)
  have hrd : rdOf ByteArray.empty ws (0 : Int) = ws.getD 0 ByteArray.empty := rfl
  rw [hrd] at hcell
  obtain ⟨x, hx⟩ : ∃ x, ws.getD 0 ByteArray.empty = x := ⟨_, rfl⟩
  rw [hx, show ad.add (Int.toNat 0) = ad by cases ad; simp [Addr.add]] at hcell
  have HI := Aside0.mk hI
  have k3 : w.cell? ⟨g, 3, none⟩ = some (.int .i64 0) := by rw [blk_cell hI.blk]; rfl
  have kf : ∀ o, w.frozen? ⟨g, o, none⟩ = false := fun o => blk_frozen hI.blk o
  clear hC hrd hI
  by_cases hroom : x = roomB
  · have HR : Aside0 (ws.getD 0 ByteArray.empty = roomB) := ⟨by rw [hx, hroom]⟩
    have hxl3 : (x.toList == ([114, 111, 111, 109] : List UInt8)) = true := by rw [hroom, ByteArray.toList_eq]; rfl
    clear hx hroom
    go_enter Tryz.func35, Tryz.ntmps35
    go_wp2_with fail
    have HW1 : Aside0 (Wrote w g (.cells (rdC p0 p1 v 1) 76 (0, 0)) (w.setCell ⟨g, 3, none⟩ (.int .i64 1))) := ⟨(Wrote.of (Below.refl _ _) HI.out.blk).put 3 (.int .i64 1)⟩
    obtain ⟨W1, hW1⟩ : ∃ W1, W1 = w.setCell ⟨g, 3, none⟩ (.int .i64 1) := ⟨_, rfl⟩
    rw [← hW1] at HW1 ⊢
    clear hW1 k3 kf
    have hgl1 : g < W1.heap.size := Nat.lt_of_lt_of_le hgl HW1.out.size
    have HF : Aside0 (∀ x w1, Below W1.heap.size W1 w1 → isWant g roomP x w1 → Calls Tryz.prog 54 #[x, .slice (tailA (some ad) c) (ws.length - 1) (c - 1)] w1 fun e w' => e = .returned (.int .i64 (codeRoom ws)) ∧ ∃ cs', Wrote W1 g (.cells cs' 76 (0, 0)) w' ∧ (codeRoom ws = 0 → cs' = rdC (numN (bl (ws.getD 1 ByteArray.empty))) (numN (bl (ws.getD 2 ByteArray.empty))) v 1)) := ⟨fun x w1 hb hw => room_from c (HI.out.put HW1.out) hb hw hc hn HR.out⟩
    refine region_facts (ws := [13]) (G := fun e w' => Aside0 ((e = 0 → Below W1.heap.size W1 w') ∧ (e = 1 → ∃ cs', Wrote W1 g (.cells cs' 76 (0, 0)) w' ∧ (codeRoom ws = 0 → cs' = rdC (numN (bl (ws.getD 1 ByteArray.empty))) (numN (bl (ws.getD 2 ByteArray.empty))) v 1)))) (φs := [Fact.eq ?vu0, Fact.eq ?vu1, Fact.eq ?vu2, Fact.eq (.pointer (some ⟨g, 0, none⟩)), (⟨fun e x w => e = 0 → ∃ bx, x = .func (.func 90) #[] #[.pointer (some ⟨bx, 0, none⟩)] ∧ isSlot g (false, 0) x w, fun _ _ _ _ h hb he => by obtain ⟨bx, h1, h2⟩ := h he; exact ⟨bx, h1, h2.below hb⟩⟩ : Fact), Fact.eq ?vu5, Fact.eq ?vu6, Fact.eq ?vu7, Fact.eq (.pointer (some ⟨g, 1, none⟩)), (⟨fun e x w => e = 0 → ∃ bx, x = .func (.func 90) #[] #[.pointer (some ⟨bx, 0, none⟩)] ∧ isSlot g (false, 1) x w, fun _ _ _ _ h hb he => by obtain ⟨bx, h1, h2⟩ := h he; exact ⟨bx, h1, h2.below hb⟩⟩ : Fact), (⟨fun e x w => e = 0 → isWant g roomP x w, fun _ _ _ _ h hb he => (h he).below hb⟩ : Fact), Fact.eq (.slice (some ad) ws.length c), Fact.eq (.slice (tailA (some ad) c) (ws.length - 1) (c - 1)), Fact.eq (.int .i64 (codeRoom ws)), Fact.eq (.int .i64 (codeRoom ws))]) (n := 15) (m := 69) (by kernel_rfl) (by kernel_rfl) rfl rfl (by kernel_rfl) (fun _ _ _ h hb => ⟨fun he => below_then (h.out.1 he) (h.out.1 he).size hb, fun he => by obtain ⟨cs', h1, h2⟩ := h.out.2 he; exact ⟨cs', h1.then hb, h2⟩⟩) (⟨fun _ => below_drew (Below.refl _ _), fun he => by cases he⟩) ⟨?ou0, ?ou1, ?ou2, ?ou3, ?ou4, ?ou5, ?ou6, ?ou7, ?ou8, ?ou9, ?ou10, ?ou11, ?ou12, ?ou13, ?ou14, trivial⟩ ?finu
    case ou0 =>
      refine ask_val [.fix 0 _] rfl 21 rfl (.inl rfl) ⟨⟨by kernel_rfl, by conv => lhs; whnf⟩, trivial⟩ ?_
      dsimp only [Has, Fact.eq]
      intro e ρ w' hc hf hg hG h0
      go_simp
      with_reducible rfl
    case ou1 =>
      refine ask_val [.op 21 0 (Fact.eq _)] rfl 22 rfl (.inl rfl) ⟨⟨by kernel_rfl, rfl⟩, trivial⟩ ?_
      dsimp only [Has, Fact.eq]
      intro e ρ w' hc hf hg hG h1
      go_simp
      with_reducible rfl
    case ou2 =>
      refine ask_val [.op 22 1 (Fact.eq _)] rfl 23 rfl (.inl rfl) ⟨⟨by kernel_rfl, rfl⟩, trivial⟩ ?_
      dsimp only [Has, Fact.eq]
      intro e ρ w' hc hf hg hG h1
      go_simp
      with_reducible rfl
    case ou3 =>
      refine ask_val [.op 23 2 (Fact.eq _)] rfl 24 rfl (.inl rfl) ⟨⟨by kernel_rfl, rfl⟩, trivial⟩ ?_
      dsimp only [Has, Fact.eq]
      intro e ρ w' hc hf hg hG h1
      go_simp
      all_goals (first | done | rfl | with_reducible rfl)
    case ou4 =>
      refine ask_call [.op 24 3 (Fact.eq _)] rfl 25 rfl (.inl rfl) ⟨⟨by kernel_rfl, rfl⟩, trivial⟩ 0 0 (by kernel_rfl) 63 Tryz.func63 (by kernel_rfl) rfl rfl ?_
      dsimp only [Has, Fact.eq]
      intro e ρ w' hp hq hc hf hg hG h7
      obtain rfl : e = 0 := by omega
      have hb := hG.out.1 rfl
      refine ⟨#[.pointer (some ⟨g, 0, none⟩)], by simp only [List.map_toArray, List.map_cons, List.map_nil, h7], (num_slot g 0 _ (Nat.lt_of_lt_of_le hgl1 hb.size)).mono ?_⟩
      rintro en w2 ⟨rfl, hs, hb2⟩
      exact ⟨_, rfl, fun _ => ⟨_, rfl, hs⟩, hb2⟩
    case ou5 =>
      refine ask_val [.fix 0 _] rfl 26 rfl (.inl rfl) ⟨⟨by kernel_rfl, by conv => lhs; whnf⟩, trivial⟩ ?_
      dsimp only [Has, Fact.eq]
      intro e ρ w' hc hf hg hG h0
      go_simp
      with_reducible rfl
    case ou6 =>
      refine ask_val [.op 26 5 (Fact.eq _)] rfl 27 rfl (.inl rfl) ⟨⟨by kernel_rfl, rfl⟩, trivial⟩ ?_
      dsimp only [Has, Fact.eq]
      intro e ρ w' hc hf hg hG h1
      go_simp
      with_reducible rfl
    case ou7 =>
      refine ask_val [.op 27 6 (Fact.eq _)] rfl 28 rfl (.inl rfl) ⟨⟨by kernel_rfl, rfl⟩, trivial⟩ ?_
      dsimp only [Has, Fact.eq]
      intro e ρ w' hc hf hg hG h1
      go_simp
      with_reducible rfl
    case ou8 =>
      refine ask_val [.op 28 7 (Fact.eq _)] rfl 29 rfl (.inl rfl) ⟨⟨by kernel_rfl, rfl⟩, trivial⟩ ?_
      dsimp only [Has, Fact.eq]
      intro e ρ w' hc hf hg hG h1
      go_simp
      all_goals (first | done | rfl | with_reducible rfl)
    case ou9 =>
      refine ask_call [.op 29 8 (Fact.eq _)] rfl 30 rfl (.inl rfl) ⟨⟨by kernel_rfl, rfl⟩, trivial⟩ 0 0 (by kernel_rfl) 63 Tryz.func63 (by kernel_rfl) rfl rfl ?_
      dsimp only [Has, Fact.eq]
      intro e ρ w' hp hq hc hf hg hG h7
      obtain rfl : e = 0 := by omega
      have hb := hG.out.1 rfl
      refine ⟨#[.pointer (some ⟨g, 1, none⟩)], by simp only [List.map_toArray, List.map_cons, List.map_nil, h7], (num_slot g 1 _ (Nat.lt_of_lt_of_le hgl1 hb.size)).mono ?_⟩
      rintro en w2 ⟨rfl, hs, hb2⟩
      exact ⟨_, rfl, fun _ => ⟨_, rfl, hs⟩, hb2⟩
    case ou10 =>
      refine ask_step [.op 25 4 _, .op 30 9 _] rfl 31 rfl (.inl rfl) ⟨⟨by kernel_rfl, rfl⟩, ⟨by kernel_rfl, rfl⟩, trivial⟩ 0 0 (by kernel_rfl) ?_
      dsimp only [Has, Fact.eq]
      intro e ρ w' hp hq hc hf hg hG h8 h12
      obtain rfl : e = 0 := by omega
      have hb := hG.out.1 rfl
      obtain ⟨b1, e1, s1⟩ := h8 rfl
      obtain ⟨b2, e2, s2⟩ := h12 rfl
      rw [e1] at s1
      rw [e2] at s2
      refine ⟨.slice (some ⟨w'.heap.size, 0, none⟩) 2 2, w'.alloc (.cells #[.func (.func 90) #[] #[.pointer (some ⟨b1, 0, none⟩)], .func (.func 90) #[] #[.pointer (some ⟨b2, 0, none⟩)]] 52), ?_, fun _ => want2 s1 s2 (Nat.lt_of_lt_of_le hgl1 hb.size), below_alloc (Below.refl _ _) _⟩
      go_simp
      first | done | rfl
    case ou11 =>
      refine ask_val [.fix 1 _] rfl 32 rfl (.inl rfl) ⟨⟨by kernel_rfl, by conv => lhs; whnf⟩, trivial⟩ ?_
      dsimp only [Has, Fact.eq]
      intro e ρ w' hc hf hg hG h1
      go_simp
      all_goals with_reducible rfl
    case ou12 =>
      refine ask_val [.op 32 11 (Fact.eq _)] rfl 33 rfl (.inl rfl) ⟨⟨by kernel_rfl, rfl⟩, trivial⟩ ?_
      dsimp only [Has, Fact.eq]
      intro e ρ w' hc hf hg hG h32
      go_simp
      rw [if_pos (show (1 : Int) ≤ (ws.length : Int) by omega)]
      rfl
    case ou13 =>
      refine ask_wcall [.op 31 10 _, .op 33 12 (Fact.eq _)] rfl 34 rfl (.inl rfl) ⟨⟨by kernel_rfl, rfl⟩, ⟨by kernel_rfl, rfl⟩, trivial⟩ 0 0 (by kernel_rfl) 54 Tryz.func54 (by kernel_rfl) rfl rfl ?_
      dsimp only [Has, Fact.eq]
      intro e ρ w' hp hq hc hf hg hG h13 h14
      obtain rfl : e = 0 := by omega
      have hb := hG.out.1 rfl
      have hw := h13 rfl
      refine ⟨#[ρ (.tmp 31), .slice (tailA (some ad) c) (ws.length - 1) (c - 1)], by simp only [List.map_toArray, List.map_cons, List.map_nil, h14], (HF.out _ _ hb hw).mono ?_⟩
      rintro en w2 ⟨rfl, hp⟩
      exact ⟨_, rfl, rfl, ⟨fun he => (by cases he), fun _ => hp⟩, ⟨fun _ h => h, fun _ h => h, fun _ h => h, fun _ h => h, fun _ _ he => absurd he (Nat.succ_ne_zero _), fun _ h => h, fun _ h => h, fun _ h => h, fun _ h => h, fun _ _ he => absurd he (Nat.succ_ne_zero _), fun _ _ he => absurd he (Nat.succ_ne_zero _), fun _ h => h, fun _ h => h, fun _ h => h, fun _ h => h, trivial⟩⟩
    case ou14 =>
      refine ask_val [.op 34 13 (Fact.eq _)] rfl 4 rfl (.inl rfl) ⟨⟨by kernel_rfl, rfl⟩, trivial⟩ ?_
      dsimp only [Has, Fact.eq]
      intro e ρ w' hc hf hg hG h1
      go_simp
      all_goals with_reducible rfl
    case finu =>
      intro w' hG
      refine fin_eq (fin_eq (fin_eq (fin_eq (fin_fact (fun v54 hv54 => fin_eq (fin_eq (fin_eq (fin_eq (fin_fact (fun v59 hv59 => fin_fact (fun v60 hv60 => fin_eq (fin_eq (fin_eq (fin_eq (fin_nil (a' := ?_) ?_ ?_)))))))))))))))
      rotate_left
      · simp only [Act.put, List.setIfInBounds_toArray, List.set_cons_zero, List.set_cons_succ]
        rfl
      have HP := Aside0.mk (hG.out.2 rfl)
      clear hG
      go_wp2_with fail
      go_ret
      obtain ⟨cs', h1, h2⟩ := HP.out
      exact ⟨rfl, cs', HW1.out.again h1, h2⟩
  · have HR : Aside0 (codeRoom ws = 240) := ⟨by unfold codeRoom; rw [if_neg (by rw [hx]; exact hroom)]⟩
    have hxl : (x = ⟨#[114, 111, 111, 109]⟩) = False := eq_false hroom
    have hxl2 : (x.toList = ([114, 111, 111, 109] : List UInt8)) = False := eq_false (fun h => hroom (by
      rw [ByteArray.toList_eq] at h
      apply ByteArray.ext
      apply Array.toList_inj.1
      exact h))
    have hxl3 : (x.toList == ([114, 111, 111, 109] : List UInt8)) = false := by rw [beq_eq_false_iff_ne]; intro h; rw [h] at hxl2; exact hxl2.mp rfl
    have HX := Aside0.mk hx
    clear hroom hx
    go_enter Tryz.func35, Tryz.ntmps35
    go_wp2_with fail
    all_goals go_ret
    all_goals exact ⟨by rw [HR.out]; rfl, _, Wrote.of (Below.refl _ _) HI.out.blk, fun h => by rw [HR.out] at h; cases h⟩
end Go.Proofs.YtkfjjmmpbfjhaaaGreatDoor.Tells
