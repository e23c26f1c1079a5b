/- DigestText: for every digest and every string Hex and Parse of the program are those of the reference, and the examples hold. -/
import Derived.Test.YtmjedihfibdhfaaHexa
namespace Go.Proofs.Ytmjedihfibdhfaa.Pure
open Go.RowKit Go.Proofs.Ytmjedihfibdhfaa.Q Go.Proofs.YtmjedihfibdhfaaW.PrintWords Go.Proofs.YtmjedihfibdhfaaW.PrintLast Go.Proofs.YtmjedihfibdhfaaW.PrintMore Go.Proofs.Ytmjedihfibdhfaa.Dig
theorem DigestText : examboardlaw11_DigestText.Pure := by
  intro h s wh hs
  have uh := u64_of_wf wh
  obtain ⟨k, hk⟩ : ∃ k, 50 ≤ k := ⟨50, Nat.le_refl _⟩
  refine ⟨k, ?_⟩
  unfold examboardlaw11_DigestText.f
  rw [bound (Parse_is (by omega)), bound (ref_Parse_is (by omega)), bound (Hex_is uh (by omega)), bound (ref_Hex_is uh (by omega)), if_pos rfl, if_pos rfl, if_pos rfl, bound (awake_is (by omega))]
end Go.Proofs.Ytmjedihfibdhfaa.Pure
