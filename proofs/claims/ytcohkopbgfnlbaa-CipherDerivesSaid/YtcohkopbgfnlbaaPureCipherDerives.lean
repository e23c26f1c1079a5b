/- CipherDerives: for every key and every label of up to 4,000 bytes the derived key is that of the reference. -/
import Derived.Test.YtcohkopbgfnlbaaDig
namespace Go.Proofs.Ytcohkopbgfnlbaa.Pure
open Go.RowKit Go.Proofs.Ytcohkopbgfnlbaa.Q Go.Proofs.YtcohkopbgfnlbaaW.PrintWords Go.Proofs.YtcohkopbgfnlbaaW.PrintLast Go.Proofs.YtcohkopbgfnlbaaW.PrintMore Go.Proofs.Ytcohkopbgfnlbaa.Dig
theorem CipherDerives : examboardlaw12_CipherDerives.Pure := by
  intro key s wk hs
  have uk := u64_of_wf wk
  obtain ⟨k, hk⟩ : ∃ k, s.size + 20 ≤ k := ⟨_, Nat.le_refl _⟩
  refine ⟨k, ?_⟩
  unfold examboardlaw12_CipherDerives.f
  by_cases h1 : (s.size : Int) > 4000
  · rw [if_pos h1]
  rw [if_neg h1]
  have hl := bytesOf_length s
  have e1 : cipher_Derive.f k key s = some (iv (addB (addB Dig.start (be8 key)) (bytesOf s))) := by
    unfold cipher_Derive.f digest_Of.f
    rw [if_pos (by omega), bound (bound (Add_is (l := []) start_u64 (by simp) (by simp; omega))), addB_nil, bound (Number_is (iv_u64 _) uk (by omega)), Add_is (iv_u64 _) (by omega) (by omega), bv_iv, bv_iv, bv_start]
  have e2 : examboardref12_Derive.f k key s = some (iv (addB (addB Dig.start (be8 key)) (bytesOf s))) := by
    unfold examboardref12_Derive.f examboardref11_Of.f
    rw [if_pos (by omega), bound (bound (ref_Add_is (l := []) start_u64 (by simp) (by simp; omega))), addB_nil, bound (ref_Number_is (iv_u64 _) (by omega)), ref_Add_is (iv_u64 _) (by omega) (by omega), bv_iv, bv_iv, bv_start]
  rw [bound e1, bound e2]
  exact congrArg some (beq_self_eq_true _)
end Go.Proofs.Ytcohkopbgfnlbaa.Pure
