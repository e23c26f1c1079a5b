/- CipherStream: for every key, nonce and two plain texts of up to 4,000 bytes the exclusive or of the sealed texts is that of the plain ones, as far as both reach. -/
import Derived.Test.YtcohkopbgfnlbaaCip
namespace Go.Proofs.Ytcohkopbgfnlbaa.Pure
open Go.RowKit Go.Proofs.Ytcohkopbgfnlbaa.Q Go.Proofs.YtcohkopbgfnlbaaW.PrintWords Go.Proofs.YtcohkopbgfnlbaaW.PrintLast Go.Proofs.YtcohkopbgfnlbaaW.PrintMore Go.Proofs.Ytcohkopbgfnlbaa.Dig Go.Proofs.Ytcohkopbgfnlbaa.Cip
theorem sealed_at {key nonce : Int} {p : List Int} {j : Nat} (hj : j < p.length) : rd (sealed key nonce p) ((8 + j : Nat) : Int) = xb (rd p (j : Int)) (kb (seed key (be8 nonce)) j) := by
  have hb := body_length key nonce p
  have e1 : rd (sealed key nonce p) ((8 + j : Nat) : Int) = rd (mixL (seed key (be8 nonce)) p) (j : Int) := by
    unfold rd sealed body
    rw [Int.toNat_natCast, Int.toNat_natCast, List.getD_eq_getElem?_getD, List.getD_eq_getElem?_getD]
    rw [List.getElem?_append_left (by rw [List.length_append, be8_length, mixL_length]; omega), List.getElem?_append_right (by rw [be8_length]; omega), be8_length, show 8 + j - 8 = j from by omega]
  rw [e1, mixL_at _ _ _ hj]
theorem stream_loop (key nonce : Int) (p q : List Int) (bp : Bytes p) (bq : Bytes q) (hp : p.length ≤ 4000) : ∀ (d k i : Nat), p.length ≤ i + d → i ≤ p.length → i ≤ q.length →
    examboardlaw12_CipherStream.l0 (k + 2 * d + 2) p q (sealed key nonce p) (sealed key nonce q) (i : Int) = some true := by
  have hp2 := sealed_length key nonce p
  have hq2 := sealed_length key nonce q
  intro d
  induction d with
  | zero =>
    intro k i h1 h2 h3
    simp only [examboardlaw12_CipherStream.l0, examboardlaw12_CipherStream.j3]
    rw [if_neg (by omega), if_neg (by decide)]
  | succ d ih =>
    intro k i h1 h2 h3
    have ih' := ih k (i + 1)
    obtain ⟨m, hm⟩ : ∃ m, m = k + 2 * d + 2 := ⟨_, rfl⟩
    rw [← hm] at ih'
    rw [show k + 2 * (d + 1) + 2 = m + 1 + 1 from by omega]
    simp only [examboardlaw12_CipherStream.l0, examboardlaw12_CipherStream.j3]
    by_cases hi : i < p.length
    · rw [if_pos (by omega)]
      by_cases hj : i < q.length
      · have e1 : wrap64 (8 + (i : Int)) = ((8 + i : Nat) : Int) := by rw [w64 (by omega) (by omega)]; omega
        have e2 : wrap64 ((i : Int) + 1) = ((i + 1 : Nat) : Int) := by rw [w64 (by omega) (by omega)]; omega
        rw [if_pos (decide_eq_true (by omega)), e1, e2, if_pos (by omega), if_pos (by omega), if_pos (by omega), if_pos (by omega), if_pos (by omega), if_pos (by omega), sealed_at hi, sealed_at hj]
        refine (if_pos (xb_both (rd_byte bp i hi) (rd_byte bq i hj) (kb_range _ _))).trans ?_
        exact ih' (by omega) (by omega) (by omega)
      · rw [if_neg (by simpa using fun h : (i : Int) < q.length => hj (by omega))]
    · rw [if_neg (by omega), if_neg (by decide)]
theorem CipherStream : examboardlaw12_CipherStream.Pure := by
  intro key nonce p q wk wn hpm hps wp hqm hqs wq
  have uk := u64_of_wf wk
  have un := u64_of_wf wn
  have bp := bytes_of_wf wp
  have bq := bytes_of_wf wq
  obtain ⟨k, hk⟩ : ∃ k, p.length + q.length + 60 ≤ k := ⟨_, Nat.le_refl _⟩
  refine ⟨k + 2 * p.length + 2 + 1 + 1, ?_⟩
  unfold examboardlaw12_CipherStream.f
  simp only [examboardlaw12_CipherStream.j0]
  by_cases h1 : (p.length : Int) > 4000
  · rw [if_pos h1, if_pos trivial]
  rw [if_neg h1]
  by_cases h2 : (q.length : Int) > 4000
  · rw [if_pos (decide_eq_true h2)]
  rw [if_neg (by simpa using h2)]
  have hp2 := sealed_length key nonce p
  have hq2 := sealed_length key nonce q
  rw [bound (Seal_ok uk (by omega) (by omega)), bound (Seal_ok uk (by omega) (by omega)), if_pos rfl, if_pos rfl, w64 (by omega) (by omega), w64 (by omega) (by omega), if_pos (show ((sealed key nonce p).length : Int) = (p.length : Int) + 16 by omega)]
  rw [show ((sealed key nonce q).length : Int) = (q.length : Int) + 16 from by omega, bne_self_eq_false]
  simp only [examboardlaw12_CipherStream.j1]
  rw [if_neg (by decide)]
  exact stream_loop key nonce p q bp bq (by omega) p.length k 0 (by omega) (by omega) (by omega)
end Go.Proofs.Ytcohkopbgfnlbaa.Pure
