/- DigestNotation: for every digest and every string Parse inverts Hex and Hex inverts Parse where it succeeds; otherwise Parse returns 0 and ErrSyntax; the examples hold. -/
import Derived.Test.YtmjedihfibdhfaaHexa
namespace Go.Proofs.Ytmjedihfibdhfaa.Pure
open Go.RowKit Go.Proofs.Ytmjedihfibdhfaa.Q Go.Proofs.YtmjedihfibdhfaaW.PrintWords Go.Proofs.YtmjedihfibdhfaaW.PrintLast Go.Proofs.YtmjedihfibdhfaaW.PrintMore Go.Proofs.Ytmjedihfibdhfaa.Dig
theorem parseS_bad {s : ByteArray} (h : (parseS s).2 ≠ 0) : parseS s = (0, 2) := by
  unfold parseS at *
  split at h
  · rename_i hs
    rw [if_pos hs]
    split at h
    · rfl
    · simp at h
  · rename_i hs
    rw [if_neg hs]
theorem DigestNotation : examboardlaw11_DigestNotation.Pure := by
  intro h s wh hs
  have uh := u64_of_wf wh
  obtain ⟨k, hk⟩ : ∃ k, 50 ≤ k := ⟨50, Nat.le_refl _⟩
  refine ⟨k + 1, ?_⟩
  unfold examboardlaw11_DigestNotation.f
  have hz := hexS_size h
  rw [bound (Hex_is uh (by omega)), bound (Parse_is (by omega)), parse_hexS uh, if_pos (by omega), if_pos rfl]
  simp only [examboardlaw11_DigestNotation.j0]
  rw [if_neg (by decide), bound (Parse_is (by omega))]
  by_cases he : (parseS s).2 = 0
  · obtain ⟨h1, h2⟩ := hexS_parse he
    rw [if_pos he, bound (Hex_is h2 (by omega)), h1, if_pos rfl, bound (awake_is (by omega))]
  · rw [if_neg he, parseS_bad he, if_pos rfl, if_pos rfl, bound (awake_is (by omega))]
end Go.Proofs.Ytmjedihfibdhfaa.Pure
