/- DigestBytes: for every two digests h, n and all bytes b: Of, Add, Number and Chain of the program are those of the reference, and the examples hold. -/
import Derived.Test.YtmjedihfibdhfaaAwk
namespace Go.Proofs.Ytmjedihfibdhfaa.Pure
open Go.RowKit Go.Proofs.Ytmjedihfibdhfaa.Q Go.Proofs.YtmjedihfibdhfaaW.PrintWords Go.Proofs.YtmjedihfibdhfaaW.PrintLast Go.Proofs.YtmjedihfibdhfaaW.PrintMore Go.Proofs.Ytmjedihfibdhfaa.Dig
theorem DigestBytes : examboardlaw11_DigestBytes.Pure := by
  intro h n l wh wn hm hs wl
  have uh := u64_of_wf wh
  have un := u64_of_wf wn
  obtain ⟨k, hk⟩ : ∃ k, l.length + 41 ≤ k := ⟨_, Nat.le_refl _⟩
  refine ⟨k, ?_⟩
  unfold examboardlaw11_DigestBytes.f digest_Of.f examboardref11_Of.f
  rw [bound (bound (Add_is start_u64 (by omega) (by omega))), bound (bound (ref_Add_is start_u64 (by omega) (by omega))), if_pos rfl]
  rw [both (Add_is uh (by omega) (by omega)) (ref_Add_is uh (by omega) (by omega))]
  rw [both (Number_is uh un (by omega)) (ref_Number_is uh (by omega))]
  rw [both (Chain_is uh (by omega) (by omega) (by omega)) (ref_Chain_is (by omega) (by omega) (by omega))]
  rw [bound (awake_is (by omega))]
end Go.Proofs.Ytmjedihfibdhfaa.Pure
