/- CipherOpens: for every key and bytes (up to 4,000, and above the limit) what they are opened to, or the error, is that of the reference. -/
import Derived.Test.YtcohkopbgfnlbaaPureCipherSeals
namespace Go.Proofs.Ytcohkopbgfnlbaa.Pure
open Go.RowKit Go.Proofs.Ytcohkopbgfnlbaa.Q Go.Proofs.YtcohkopbgfnlbaaW.PrintWords Go.Proofs.YtcohkopbgfnlbaaW.PrintLast Go.Proofs.YtcohkopbgfnlbaaW.PrintMore Go.Proofs.Ytcohkopbgfnlbaa.Dig Go.Proofs.Ytcohkopbgfnlbaa.Cip
theorem opened_length (key : Int) (s : List Int) : (opened key s).1.length ≤ s.length := by
  unfold opened
  split
  · simp
  · split
    · simp
    · split
      · rw [mixL_length, List.length_drop, List.length_take]; omega
      · simp
theorem CipherOpens : examboardlaw12_CipherOpens.Pure := by
  intro key s wk hm hs ws
  have uk := u64_of_wf wk
  have hb := bytes_of_wf ws
  obtain ⟨k, hk⟩ : ∃ k, s.length + 60 ≤ k := ⟨_, Nat.le_refl _⟩
  refine ⟨k, ?_⟩
  unfold examboardlaw12_CipherOpens.f
  rw [bound (middling_is _ _)]
  by_cases h1 : (s.length : Int) > 4000 ∧ (s.length : Int) ≤ 1048592
  · rw [if_pos (decide_eq_true h1)]
  rw [if_neg (by simpa using h1)]
  by_cases h2 : s.length > 1048592
  · have e1 : cipher_Open.f k key s = some ([], 0, 5) := by unfold cipher_Open.f; rw [if_neg (by omega), if_pos (by omega)]
    have e2 : examboardref12_Open.f k key s = some ([], 0, 5) := by unfold examboardref12_Open.f; rw [if_neg (by omega), if_pos (by omega)]
    rw [bound e1, bound e2, bound (same_is [] (by simp) (by simp; omega)), if_pos rfl, if_pos rfl]
    rfl
  · have hl := opened_length key s
    rw [bound (Open_is uk hb (by omega) (by omega)), bound (ref_Open_is hb (by omega) (by omega)), bound (same_is (opened key s).1 (by omega) (by omega)), if_pos rfl, if_pos rfl]
    exact congrArg some (beq_self_eq_true _)
end Go.Proofs.Ytcohkopbgfnlbaa.Pure
