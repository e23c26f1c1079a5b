/- DigestChange: bytes that differ in exactly one byte have different digests; different digests, extended by the same bytes, stay different; the examples hold. -/
import Derived.Test.YtmjedihfibdhfaaAwk
namespace Go.Proofs.Ytmjedihfibdhfaa.Pure
open Go.RowKit Go.Proofs.Ytmjedihfibdhfaa.Q Go.Proofs.YtmjedihfibdhfaaW.PrintWords Go.Proofs.YtmjedihfibdhfaaW.PrintLast Go.Proofs.YtmjedihfibdhfaaW.PrintMore Go.Proofs.Ytmjedihfibdhfaa.Dig
theorem beq_dec (x y : Int) : (x == y) = decide (x = y) := by
  by_cases h : x = y
  · subst h; rw [decide_eq_true rfl, beq_self_eq_true]
  · rw [decide_eq_false h]; exact beq_eq_false_iff_ne.2 h
theorem DigestChange : examboardlaw11_DigestChange.Pure := by
  intro g h l at_ x wg wh hm hs wl wa wx
  have ug := u64_of_wf wg
  have uh := u64_of_wf wh
  have hb := bytes_of_wf wl
  have hx : 0 ≤ x ∧ x < 256 := by
    simp [Lit.wf, IntKind.min, IntKind.max, IntKind.bits, IntKind.signed] at wx
    omega
  have ha : 0 ≤ at_ ∧ at_ < 65536 := by
    simp [Lit.wf, IntKind.min, IntKind.max, IntKind.bits, IntKind.signed] at wa
    omega
  have u5 : U64 5 := by unfold U64; omega
  obtain ⟨k, hk⟩ : ∃ k, l.length + 42 ≤ k + 1 := ⟨l.length + 41, Nat.le_refl _⟩
  refine ⟨k + 1, ?_⟩
  unfold examboardlaw11_DigestChange.f
  have eg := Add_is (k := k + 1) ug (show l.length < 4611686018427387904 by omega) (by omega)
  have eh := Add_is (k := k + 1) uh (show l.length < 4611686018427387904 by omega) (by omega)
  have hd : ∀ m : List Int, (iv (addB (bv g) m) == iv (addB (bv h) m)) = (g == h) := by
    intro m
    rw [iv_beq, beq_dec]
    exact decide_eq_decide.2 (addB_left_iff.trans ⟨bv_inj ug uh, fun h => by rw [h]⟩)
  rw [bound eg, bound eh, hd, if_neg (by simp), bound (Number_is ug u5 (by omega)), bound (Number_is uh u5 (by omega)), hd]
  simp only [bne_self_eq_false]
  simp only [examboardlaw11_DigestChange.j0]
  rw [if_neg (by decide)]
  by_cases h0 : l.length = 0
  · rw [if_pos (by omega), bound (awake_is (by omega))]
  · rw [if_neg (by omega)]
    simp only [Option.bind_some, List.length_nil, List.nil_append]
    rw [if_pos (by omega), if_neg (by omega)]
    have hw : wrap64 at_ = at_ := w64 (by omega) (by omega)
    have ht : Int.tmod at_ (l.length : Int) = at_ % (l.length : Int) := Int.tmod_eq_emod_of_nonneg ha.1
    have h1 : 0 ≤ at_ % (l.length : Int) := Int.emod_nonneg _ (by omega)
    have h2 : at_ % (l.length : Int) < (l.length : Int) := Int.emod_lt_of_pos _ (by omega)
    obtain ⟨i, hi⟩ := Int.eq_ofNat_of_zero_le h1
    have hv : Int.tmod (wrap64 at_) (l.length : Int) = (i : Int) := by rw [hw, ht, hi]
    have hil : i < l.length := by omega
    rw [if_pos (by rw [hv]; omega), if_pos (by rw [hv]; omega), if_pos (by rw [hv]; omega), show (Int.tmod (wrap64 at_) (l.length : Int)).toNat = i from by rw [hv, Int.toNat_natCast]]
    have hset := fun H => addB_change (H := H) hb hx hil
    have hsl : (l.set i x).length = l.length := List.length_set
    have hrd : rd l (Int.tmod (wrap64 at_) (l.length : Int)) = l.getD i 0 := by unfold rd; rw [hv, Int.toNat_natCast]
    have hcmp : ∀ H, ((iv (addB H l) == iv (addB H (l.set i x))) == (rd l (Int.tmod (wrap64 at_) (l.length : Int)) == x)) = true := by
      intro H
      rw [iv_beq, beq_dec (rd l _), hrd, decide_eq_decide.2 (show addB H l = addB H (l.set i x) ↔ l.getD i 0 = x from ⟨fun h => (hset H).1 h.symm, fun h => ((hset H).2 h).symm⟩), beq_self_eq_true]
    unfold digest_Of.f
    rw [bound (bound (Add_is start_u64 (by omega) (by omega))), bound (bound (Add_is start_u64 (by omega) (by omega))), if_pos (hcmp _)]
    rw [bound (Add_is uh (by omega) (by omega)), bound (Add_is uh (by omega) (by omega)), if_pos (hcmp _)]
    rw [bound (Chain_is uh (by omega) (by omega) (by omega)), bound (Chain_is uh (by omega) (by omega) (by omega)), addB_append, addB_append, if_pos (hcmp _)]
    rw [bound (awake_is (by omega))]
end Go.Proofs.Ytmjedihfibdhfaa.Pure
