/- CipherRoundTrip: what is sealed (up to 4,000 bytes) is opened with the same key, has 16 bytes more and begins with the nonce. -/
import Derived.Test.YtcohkopbgfnlbaaCip
namespace Go.Proofs.Ytcohkopbgfnlbaa.Pure
open Go.RowKit Go.Proofs.Ytcohkopbgfnlbaa.Q Go.Proofs.YtcohkopbgfnlbaaW.PrintWords Go.Proofs.YtcohkopbgfnlbaaW.PrintLast Go.Proofs.YtcohkopbgfnlbaaW.PrintMore Go.Proofs.Ytcohkopbgfnlbaa.Dig Go.Proofs.Ytcohkopbgfnlbaa.Cip
theorem sealed_take (key nonce : Int) (p : List Int) : (sealed key nonce p).take ((sealed key nonce p).length - 8) = body key nonce p := by
  rw [sealed_length, show p.length + 16 - 8 = (body key nonce p).length from by rw [body_length]; omega]
  unfold sealed
  exact List.take_left
theorem sealed_drop (key nonce : Int) (p : List Int) : (sealed key nonce p).drop ((sealed key nonce p).length - 8) = be8 (tag key (body key nonce p)) := by
  rw [sealed_length, show p.length + 16 - 8 = (body key nonce p).length from by rw [body_length]; omega]
  unfold sealed
  exact List.drop_left
theorem sealed_head (key nonce : Int) (p : List Int) : (sealed key nonce p).take 8 = be8 nonce := by
  unfold sealed body
  rw [List.append_assoc]
  exact List.take_left' (be8_length nonce)
theorem open_sealed {key nonce : Int} {p : List Int} (hn : U64 nonce) (bp : Bytes p) (hp : p.length ≤ 4000) : opened key (sealed key nonce p) = (p, nonce, 0) := by
  unfold opened
  rw [if_neg (by rw [sealed_length]; omega), if_neg (by rw [sealed_length]; omega), sealed_take, sealed_drop, sealed_head, rdL_be8 (tag_u64 _ _), if_pos rfl, rdL_be8 hn]
  have e : (body key nonce p).drop 8 = mixL (seed key (be8 nonce)) p := by unfold body; exact List.drop_left' (be8_length nonce)
  rw [e, mixL_twice _ bp]
theorem be8_at (n : Int) : ∀ i : Nat, i < 8 → rd (be8 n) (i : Int) = n / 2 ^ (56 - 8 * i) % 256
  | 0, _ => rfl
  | 1, _ => rfl
  | 2, _ => rfl
  | 3, _ => rfl
  | 4, _ => rfl
  | 5, _ => rfl
  | 6, _ => rfl
  | 7, _ => by simp [be8, rd]
  | n + 8, h => by omega
theorem sealed_nonce (key nonce : Int) (p : List Int) (i : Nat) (hi : i < 8) : rd (sealed key nonce p) (i : Int) = nonce / 2 ^ (56 - 8 * i) % 256 := by
  rw [← be8_at nonce i hi]
  unfold rd sealed body
  rw [Int.toNat_natCast, List.append_assoc, List.getD_eq_getElem?_getD, List.getElem?_append_left (by rw [be8_length]; omega), List.getD_eq_getElem?_getD]
theorem trip_loop (key nonce : Int) (p : List Int) (uk : U64 key) (un : U64 nonce) (bp : Bytes p) (hp : p.length ≤ 4000) : ∀ (d k i : Nat), i + d = 8 → p.length + 60 ≤ k →
    examboardlaw12_CipherRoundTrip.l0 (k + d + 1) key nonce p (sealed key nonce p) (i : Int) = some true := by
  have hp2 := sealed_length key nonce p
  intro d
  induction d with
  | zero =>
    intro k i h1 hk
    simp only [examboardlaw12_CipherRoundTrip.l0]
    rw [if_neg (by omega), bound (Open_is uk (sealed_bytes key nonce bp) (by omega) (by omega)), open_sealed un bp hp, if_pos rfl, if_pos rfl, bound (same_is p (by omega) (by omega))]
  | succ d ih =>
    intro k i h1 hk
    have ih' := ih k (i + 1) (by omega) hk
    obtain ⟨m, hm⟩ : ∃ m, m = k + d + 1 := ⟨_, rfl⟩
    rw [← hm] at ih'
    rw [show k + (d + 1) + 1 = m + 1 from by omega]
    simp only [examboardlaw12_CipherRoundTrip.l0]
    have e1 : wrap64 (8 * (i : Int)) = 8 * (i : Int) := w64 (by omega) (by omega)
    have e2 : IntKind.u64.wrap (wrap64 (56 - 8 * (i : Int))) = ((56 - 8 * i : Nat) : Int) := by rw [w64 (by omega) (by omega), wrapU_id (by unfold U64; omega)]; omega
    have e3 : wrap64 ((i : Int) + 1) = ((i + 1 : Nat) : Int) := by rw [w64 (by omega) (by omega)]; omega
    rw [e1, e2, e3, if_pos (by omega), if_pos (by omega), if_pos (by omega), if_pos (by omega), shrU _ _ (by omega), sealed_nonce key nonce p i (by omega), if_pos rfl]
    exact ih'
theorem CipherRoundTrip : examboardlaw12_CipherRoundTrip.Pure := by
  intro key nonce p wk wn hm hs wp
  have uk := u64_of_wf wk
  have un := u64_of_wf wn
  have bp := bytes_of_wf wp
  obtain ⟨k, hk⟩ : ∃ k, p.length + 60 ≤ k := ⟨_, Nat.le_refl _⟩
  refine ⟨k + 8 + 1 + 1, ?_⟩
  unfold examboardlaw12_CipherRoundTrip.f
  by_cases h1 : (p.length : Int) > 4000
  · rw [if_pos h1]
  have hp2 := sealed_length key nonce p
  rw [if_neg h1, bound (Seal_ok uk (by omega) (by omega)), if_pos rfl, w64 (by omega) (by omega), show ((sealed key nonce p).length : Int) = (p.length : Int) + 16 from by omega, bne_self_eq_false]
  simp only [examboardlaw12_CipherRoundTrip.j0]
  rw [if_neg (by decide)]
  exact trip_loop key nonce p uk un bp (by omega) 8 k 0 (by omega) (by omega)
end Go.Proofs.Ytcohkopbgfnlbaa.Pure
