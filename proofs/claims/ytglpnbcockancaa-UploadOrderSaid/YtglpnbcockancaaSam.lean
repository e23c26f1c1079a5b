/- Lists of packets, and inboxes, are the same as themselves. -/
import Derived.Test.YtglpnbcockancaaQx13
import Derived.Test.YtglpnbcockancaaInb
namespace Go.Proofs.Ytglpnbcockancaa.Upl
open Go.RowKit Go.Proofs.Ytglpnbcockancaa.Q Go.Proofs.Ytglpnbcockancaa.Dig Go.Proofs.Ytglpnbcockancaa.Canon Go.Proofs.YtglpnbcockancaaW.PrintWords Go.Proofs.YtglpnbcockancaaW.PrintLast Go.Proofs.YtglpnbcockancaaW.PrintMore
theorem packets_l0 (l : List S25) (hl : l.length < 4611686018427387904) (hp : ∀ p ∈ l, p.f2.length ≤ 2000) : ∀ (d k i : Nat), i + d = l.length → d + 2001 < k →
    examboardlaw53_samePackets.l0 k l l (l.length : Int) (i : Int) = some true := by
  intro d
  induction d with
  | zero =>
    intro k i hd hk
    obtain ⟨k, rfl⟩ : ∃ m, k = m + 1 := ⟨k - 1, by omega⟩
    simp only [examboardlaw53_samePackets.l0]
    rw [if_neg (by omega)]
  | succ d ih =>
    intro k i hd hk
    obtain ⟨k, rfl⟩ : ∃ m, k = m + 1 := ⟨k - 1, by omega⟩
    simp only [examboardlaw53_samePackets.l0]
    have hq := hp (rd_T25 l (i : Int)) (by rw [rd25 l i (by omega)]; exact List.getElem_mem _)
    rw [if_pos (by omega), if_pos (by omega), if_pos (by omega), if_pos (by omega), bound (samePacket_refl _ _ _ _ (by omega) (by omega)), if_pos rfl, w64 (by omega) (by omega)]
    have h := ih k (i + 1) (by omega) (by omega)
    exact_mod_cast h
theorem same_is {b : List Int} (hb : b.length ≤ 80) {s : Nat × List P} (h : Inv b s) {k : Nat} (hk : 10000 ≤ k) :
    examboardlaw53_same.f k 5 (b.take s.1) (s.2.map (pk b)) 5 (b.take s.1) (s.2.map (pk b)) = some true := by
  have l1 : (b.take s.1).length ≤ 80 := by rw [List.length_take]; omega
  have l2 : (s.2.map (pk b)).length ≤ 200 := by rw [List.length_map]; exact h.few
  have e := packets_l0 (s.2.map (pk b)) (by omega) (fun p hp => by
    obtain ⟨q, hq, rfl⟩ := List.mem_map.1 hp
    have := (h.all q hq).1
    show (cut b q).length ≤ 2000
    rw [cut_length this]
    unfold good at this; omega) (s.2.map (pk b)).length k 0 (Nat.zero_add _) (by omega)
  rw [Int.ofNat_zero] at e
  unfold examboardlaw53_same.f examboardlaw53_samePackets.f
  rw [if_pos rfl, bound (equal_refl (by omega) (by omega)), if_pos rfl, if_pos rfl, bound e]
end Go.Proofs.Ytglpnbcockancaa.Upl
