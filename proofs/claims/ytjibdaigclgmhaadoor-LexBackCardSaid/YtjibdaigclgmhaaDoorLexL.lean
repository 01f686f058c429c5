/- Facts of Tokens' answers, for the laws of chapter 7. Conditions: those that each theorem states. -/
import Derived.Test.YtjibdaigclgmhaaDoorLexK
import Derived.Test.YtjibdaigclgmhaaDoorFacts
namespace Go.Proofs.YtjibdaigclgmhaaDoor.LexW
open Go.RowKit Go.Maps Go.Proofs.YtjibdaigclgmhaaDoor.Lex Go.Proofs.YtjibdaigclgmhaaDoor.PLexTokens Go.Proofs.YtjibdaigclgmhaaDoorW.PrintWords Go.Proofs.YtjibdaigclgmhaaDoorW.PrintLast Go.Proofs.YtjibdaigclgmhaaDoorW.PrintMore Go.Proofs.YtjibdaigclgmhaaDoor.Facts
set_option linter.unusedVariables false
set_option linter.unusedSimpArgs false
theorem set_same {w : World} {a : Addr} {v : Value} (h : w.cell? a = some v) : w.setCell a v = w := by
  obtain ⟨hp, tp, dr, os, out⟩ := w
  unfold World.cell? at h
  unfold World.setCell
  simp only at h ⊢
  congr 1
  refine Array.ext (by simp) (fun k h1 h2 => ?_)
  rw [Array.getElem_modify]
  split
  · rename_i e
    subst e
    rw [Array.getElem?_eq_getElem h2] at h
    split at h
    · rename_i c t f hc
      injection hc with hc
      rw [hc]
      split at h
      · cases h
      · rename_i hs
        simp only [hs]
        have : c.setIfInBounds a.off v = c := by
          refine Array.ext (by simp) (fun j h3 h4 => ?_)
          rw [Array.getElem_setIfInBounds]
          split
          · rename_i e; subst e
            rw [Array.getElem?_eq_getElem h4] at h
            exact (Option.some.inj h).symm
          · rfl
        simp [this]
    · cases h
  · rfl
theorem same2 {w : World} {g : Nat} {t : TypeId} {a b : Value} (h : w.heap[g]? = some (.cells #[a, b] t (0, 0))) : (w.setCell ⟨g, 0, none⟩ a).setCell ⟨g, 1, none⟩ b = w := by
  rw [set_same (a := ⟨g, 0, none⟩) (v := a) (blk_cell h 0), set_same (a := ⟨g, 1, none⟩) (v := b) (blk_cell h 1)]
/-- Tokens' answer where it is a list -/
def TFact (l : List TokA) : Fact := ⟨fun _ v w => ∃ A, v = .tuple #[.slice A l.length l.length, .agg #[.int .i64 0, .int .i64 0]] ∧ Kd.C k42 w A l.length (l.map tokS), fun _ _ _ _ ⟨A, h, hC⟩ hb => ⟨A, h, Kd.C_below hC hb⟩⟩
def SFact (l : List TokA) : Fact := ⟨fun _ v w => ∃ A, v = .slice A l.length l.length ∧ Kd.C k42 w A l.length (l.map tokS), fun _ _ _ _ ⟨A, h, hC⟩ hb => ⟨A, h, Kd.C_below hC hb⟩⟩
/-- a block of the call's own -/
def BFact (B : Nat) (o : Obj) : Fact := ⟨fun _ v w => ∃ g, v = .pointer (some ⟨g, 0, none⟩) ∧ B ≤ g ∧ w.heap[g]? = some o, fun _ _ _ _ ⟨g, h, hg, ho⟩ hb => ⟨g, h, hg, blk_below ho hb⟩⟩
theorem tokens_list {s : ByteArray} {l : List TokA} (hq : tokensS (bl s) = .inl l) (e : Nat) (w : World) (E : Erg w) : Calls Tryd.prog 11 #[.string s] w fun en w' => ∃ v, en = .returned v ∧ (TFact l).f e v w' ∧ Below w.heap.size w w' := by
  refine (tokens_calls s w E).mono ?_
  rintro en w' h
  rw [hq] at h
  obtain ⟨⟨A, c, rfl, hR⟩, hb⟩ := h
  have hC := (Kd.R_reads' hR).2.2
  rw [List.length_map] at hC
  exact ⟨_, rfl, ⟨A, rfl, hC⟩, hb⟩
theorem tokens_fault {s : ByteArray} {a : Int × Nat} (hq : tokensS (bl s) = .inr a) (w : World) (E : Erg w) : Calls Tryd.prog 11 #[.string s] w fun en w' => en = .returned (.tuple #[.slice none 0 0, .agg #[.int .i64 a.1, .int .i64 (a.2 : Int)]]) ∧ Below w.heap.size w w' := by
  refine (tokens_calls s w E).mono ?_
  rintro en w' h
  rw [hq] at h
  exact h
end Go.Proofs.YtjibdaigclgmhaaDoor.LexW
