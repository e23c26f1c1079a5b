/- CipherSeals: for every key, nonce and bytes (up to 4,000, and above the limit) the sealed bytes, or the error, are those of the reference. -/
import Derived.Test.YtcohkopbgfnlbaaCip
namespace Go.Proofs.Ytcohkopbgfnlbaa.Pure
open Go.RowKit Go.Proofs.Ytcohkopbgfnlbaa.Q Go.Proofs.YtcohkopbgfnlbaaW.PrintWords Go.Proofs.YtcohkopbgfnlbaaW.PrintLast Go.Proofs.YtcohkopbgfnlbaaW.PrintMore Go.Proofs.Ytcohkopbgfnlbaa.Dig Go.Proofs.Ytcohkopbgfnlbaa.Cip
theorem middling_is (a b : Int) : examboardlaw12_middling.f a b = some (decide (a > 4000 ∧ a ≤ b)) := by
  unfold examboardlaw12_middling.f
  by_cases h : a > 4000
  · rw [if_pos h]; congr 1; exact decide_eq_decide.2 ⟨fun h2 => ⟨h, h2⟩, fun h2 => h2.2⟩
  · rw [if_neg h]; congr 1; exact (decide_eq_false fun h2 => h h2.1).symm
theorem CipherSeals : examboardlaw12_CipherSeals.Pure := by
  intro key nonce p wk wn hm hs wp
  have uk := u64_of_wf wk
  have un := u64_of_wf wn
  obtain ⟨k, hk⟩ : ∃ k, p.length + 60 ≤ k := ⟨_, Nat.le_refl _⟩
  refine ⟨k, ?_⟩
  unfold examboardlaw12_CipherSeals.f
  rw [bound (middling_is _ _)]
  by_cases h1 : (p.length : Int) > 4000 ∧ (p.length : Int) ≤ 1048576
  · rw [if_pos (decide_eq_true h1)]
  rw [if_neg (by simpa using h1)]
  by_cases h2 : p.length > 1048576
  · have e1 : cipher_Seal.f k key nonce p = some ([], 5) := by unfold cipher_Seal.f; rw [if_pos (by omega)]
    have e2 : examboardref12_Seal.f k key nonce p = some ([], 5) := by unfold examboardref12_Seal.f; rw [if_pos (by omega)]
    rw [bound e1, bound e2, bound (same_is [] (by simp) (by simp; omega)), if_pos rfl]
    rfl
  · have hl := sealed_length key nonce p
    rw [bound (Seal_is uk (by omega) (by omega)), bound (ref_Seal_is un (by omega) (by omega)), if_neg h2, bound (same_is (sealed key nonce p) (by omega) (by omega)), if_pos rfl]
    rfl
end Go.Proofs.Ytcohkopbgfnlbaa.Pure
