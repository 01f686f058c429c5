/- The program's reading of tokens, walked: each function's answer in plain words. Conditions: those that each theorem states. -/
import Derived.Test.YtjibdaigclgmhaaDoorLexI
namespace Go.Proofs.YtjibdaigclgmhaaDoor.LexW
open Go.RowKit Go.Maps Go.Proofs.YtjibdaigclgmhaaDoor.Lex Go.Proofs.YtjibdaigclgmhaaDoor.PLexTokens Go.Proofs.YtjibdaigclgmhaaDoorW.PrintWords Go.Proofs.YtjibdaigclgmhaaDoorW.PrintLast Go.Proofs.YtjibdaigclgmhaaDoorW.PrintMore
attribute [local go_sem] max2_int min2_int max_two min_two max_three min_three max_four min_four
set_option linter.unusedVariables false
set_option linter.unusedSimpArgs false
theorem tokensS_inl {l : List UInt8} {t : List TokA} (h : tokensS l = .inl t) : Lexes l 0 t ∧ l.length ≤ 4096 := by
  unfold tokensS at h
  split at h
  · cases h
  · rename_i hl
    cases hx : lex l with
    | inl u => rw [hx] at h; cases h; exact ⟨(lex_iff _ _).1 hx, by omega⟩
    | inr a => rw [hx] at h; cases h
theorem tokensS_inr {l : List UInt8} {a : Int × Nat} (h : tokensS l = .inr a) : a.1 = 73 ∨ a.1 = 70 := by
  unfold tokensS at h
  split at h
  · cases h; exact .inl rfl
  · cases hx : lex l with
    | inl u => rw [hx] at h; cases h
    | inr b => rw [hx] at h; injection h with h; rw [← h]; exact .inr rfl
theorem tokensS_of {l : List UInt8} {t : List TokA} (h : Lexes l 0 t) (hl : l.length ≤ 4096) : tokensS l = .inl t := by
  unfold tokensS
  rw [if_neg (by omega), (lex_iff _ _).2 h]
theorem add0 (ad : Addr) : ad.add 0 = ad := by first | exact Addr.add_zero _ | (cases ad; simp [Addr.add]; done) | simp [Addr.add]
theorem Lexes_len {s : List UInt8} {a : Nat} {l : List TokA} (h : Lexes s a l) : l.length ≤ s.length + 1 := by
  induction h with
  | stop g a hg => simp
  | tok g x t n l a hg ht _ ih =>
    have hle := tok_le x t n ht
    rw [List.length_drop] at ih
    rw [List.length_cons, List.length_append]
    omega
/-- a token's cells -/
theorem tok_at {w : World} {ad : Addr} {n : Nat} {l : List TokA} (h : Kd.C k42 w (some ad) n (l.map tokS)) (i : Nat) (t : TokA) (ht : l[i]? = some t) : w.cell? (ad.add (i * 4)) = some (.int .i64 t.tok.kind) ∧ w.cell? ⟨(ad.add (i * 4)).block, (ad.add (i * 4)).off + 1, none⟩ = some (.string ⟨t.tok.text.toArray⟩) ∧ w.cell? ⟨(ad.add (i * 4)).block, (ad.add (i * 4)).off + 2, none⟩ = some (.int .i64 t.tok.num) ∧ w.cell? ⟨(ad.add (i * 4)).block, (ad.add (i * 4)).off + 3, none⟩ = some (.int .i64 (t.place : Int)) := by
  have hi : i < l.length := (List.getElem?_eq_some_iff.1 ht).1
  have hn : n = (l.map tokS).length := h.1.symm
  rw [List.length_map] at hn
  obtain ⟨ad', e, h0, h1, h2, h3⟩ := at_T42 h (i : Int) (by omega) (by omega)
  cases e
  have hr : rd_T42 (l.map tokS) (i : Int) = tokS t := by
    rw [rd_at _ i (by rw [List.length_map]; exact hi), List.getElem_map]
    rw [(List.getElem?_eq_some_iff.1 ht).2]
  rw [hr, Int.toNat_natCast] at h0 h1 h2 h3
  exact ⟨h0, h1, h2, h3⟩
end Go.Proofs.YtjibdaigclgmhaaDoor.LexW
