import Derived.Test.YtglpnbcockancaaQx10
import Derived.Test.YtglpnbcockancaaDiv
import Derived.Test.YtglpnbcockancaaExample
namespace Go.Proofs.Ytglpnbcockancaa.Pure
open Go.RowKit Go.Proofs.Ytglpnbcockancaa.Q Go.Proofs.Ytglpnbcockancaa.Dig Go.Proofs.Ytglpnbcockancaa.Upl Go.Proofs.YtglpnbcockancaaW.PrintWords Go.Proofs.YtglpnbcockancaaW.PrintLast

theorem pack_same {k : Nat} (s a : Int) (l : List Int) (hk : 2009 ≤ k) : examboardlaw53_samePacket.f k (pack s a l).1 (pack s a l).2.1 (pack s a l).2.2.1 (pack s a l).2.2.2.1 (pack s a l).1 (pack s a l).2.1 (pack s a l).2.2.1 (pack s a l).2.2.2.1 = some true := by
  by_cases h : okP s a l.length = true
  · obtain ⟨_, _, _, _, _, h6, _⟩ := okP_iff.1 h
    have e : (pack s a l).2.2.1 = l := by unfold pack; rw [if_pos h]
    rw [e]
    exact samePacket_refl _ _ _ _ (by omega) (by omega)
  · have e : (pack s a l).2.2.1 = [] := by unfold pack; rw [if_neg h]
    rw [e]
    exact samePacket_refl _ _ _ _ (by simp) (by simp; omega)
theorem new_same {k : Nat} (s : Int) (hk : 2009 ≤ k) : examboardlaw53_same.f k (nw s).1 (nw s).2.1 (nw s).2.2.1 (nw s).1 (nw s).2.1 (nw s).2.2.1 = some true := by
  have e1 : (nw s).2.1 = [] := by unfold nw; split <;> rfl
  have e2 : (nw s).2.2.1 = [] := by unfold nw; split <;> rfl
  unfold examboardlaw53_same.f
  rw [if_pos rfl, e1, e2, bound (equal_refl (by simp) (by simp; omega)), if_pos rfl, bound (samePackets_refl (by simp) (fun p hp => by simp at hp) (by simp; omega))]
theorem UploadPackets : examboardlaw53_UploadPackets.Pure := by
  intro a0 a1 a2 l3 _ _ _ _ h5 _
  obtain ⟨k, hk⟩ : ∃ k : Nat, 1060000 ≤ k := ⟨_, Nat.le_refl _⟩
  refine ⟨k, ?_⟩
  unfold examboardlaw53_UploadPackets.f
  rw [bound (Packet_is a0 a1 l3 (by omega) (by omega)), bound (ref_Packet_is a0 a1 l3 (by omega)), if_pos rfl, bound (pack_same a0 a1 l3 (by omega)), if_pos rfl,
    bound (Split_is a0 l3 a2 hk), bound (ref_Split_is a0 l3 a2 hk), bound (New_is a0), bound (ref_New_is a0), if_pos rfl, bound (dv_same a0 l3 0 a2 hk), if_pos rfl, bound (new_same a0 (by omega)), if_pos rfl, if_pos rfl, bound (awake_is (by omega))]

end Go.Proofs.Ytglpnbcockancaa.Pure
