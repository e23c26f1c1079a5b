/- DigestRoots: for every list of digests Root of the program is that of the reference, and the examples hold. -/
import Derived.Test.YtmjedihfibdhfaaTree
namespace Go.Proofs.Ytmjedihfibdhfaa.Pure
open Go.RowKit Go.Proofs.Ytmjedihfibdhfaa.Q Go.Proofs.YtmjedihfibdhfaaW.PrintWords Go.Proofs.YtmjedihfibdhfaaW.PrintLast Go.Proofs.YtmjedihfibdhfaaW.PrintMore Go.Proofs.Ytmjedihfibdhfaa.Dig
theorem DigestRoots : examboardlaw11_DigestRoots.Pure := by
  intro l hm hs wl
  have hu : U64s l := fun x hx => u64_of_wf (wl x hx)
  obtain ⟨K, hK⟩ := Root_is hu (by omega)
  obtain ⟨M, hM⟩ := ref_Root_is (l := l) (by omega)
  obtain ⟨k, hk⟩ : ∃ k, K + M + 40 ≤ k := ⟨_, Nat.le_refl _⟩
  refine ⟨k, ?_⟩
  unfold examboardlaw11_DigestRoots.f
  rw [both (hK k (by omega)) (hM k (by omega)), bound (awake_is (by omega))]
end Go.Proofs.Ytmjedihfibdhfaa.Pure
