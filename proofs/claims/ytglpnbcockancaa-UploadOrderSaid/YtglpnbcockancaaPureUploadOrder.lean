import Derived.Test.YtglpnbcockancaaQx20
import Derived.Test.YtglpnbcockancaaSta
import Derived.Test.YtglpnbcockancaaSam
import Derived.Test.YtglpnbcockancaaExample
namespace Go.Proofs.Ytglpnbcockancaa.Pure
open Go.RowKit Go.Proofs.Ytglpnbcockancaa.Q Go.Proofs.Ytglpnbcockancaa.Dig Go.Proofs.Ytglpnbcockancaa.Upl Go.Proofs.Ytglpnbcockancaa.Canon Go.Proofs.YtglpnbcockancaaW.PrintWords Go.Proofs.YtglpnbcockancaaW.PrintLast Go.Proofs.YtglpnbcockancaaW.PrintMore

theorem UploadOrder (l o : List Int) (x y p q : Int) (hl : Bytes l) (ho : Bytes o) (hx : 0 ≤ x ∧ x < 256) (hy : 0 ≤ y ∧ y < 256) (hp : 0 ≤ p ∧ p < 256) (hq : 0 ≤ q ∧ q < 256) : ∃ k, examboardlaw53_UploadOrder.f k l x y o p q = some true := by
  obtain ⟨k, hk⟩ : ∃ k : Nat, 1070000 ≤ k := ⟨_, Nat.le_refl _⟩
  refine ⟨k, ?_⟩
  have lb := jr_length l
  have hg := fl_good l x y
  obtain ⟨s, hs, es⟩ := state_is lb hg ho (k := k) (by omega)
  unfold examboardlaw53_UploadOrder.f
  rw [fleet_is l hx hy (by omega), Option.bind_some]
  simp only []
  rw [if_pos trivial, List.length_map]
  generalize fl l x y = ps at *
  by_cases z : ps.length = 0
  · rw [if_pos (by omega), awake_is (by omega), Option.bind_some]
  · rw [if_neg (by omega), es, Option.bind_some, if_pos rfl, pick_is hp, pick_is hq]
    have lp : p.toNat % ps.length < ps.length := Nat.mod_lt _ (by omega)
    have lq : q.toNat % ps.length < ps.length := Nat.mod_lt _ (by omega)
    generalize p.toNat % ps.length = i at lp
    generalize q.toNat % ps.length = j at lq
    have mp : ps[i] ∈ ps := List.getElem_mem _
    have mq : ps[j] ∈ ps := List.getElem_mem _
    have gp := hg _ mp
    have gq := hg _ mq
    have sa := sta_rcv hs mp
    have sb := sta_rcv sa mq
    have sc := sta_rcv hs mq
    have hs' := hs
    obtain ⟨S, can, _, _⟩ := hs'
    have again := rcv_again can ps[i]
    have swap := rcv_swap can ps[i] ps[j]
    have r1 := Receive_is lb (sta_inv hg hs (by omega)) gp (k := k) (by omega)
    have r2 := Receive_is lb (sta_inv hg sa (by omega)) gp (k := k) (by omega)
    have r3 := Receive_is lb (sta_inv hg sa (by omega)) gq (k := k) (by omega)
    have r4 := Receive_is lb (sta_inv hg hs (by omega)) gq (k := k) (by omega)
    have r5 := Receive_is lb (sta_inv hg sc (by omega)) gp (k := k) (by omega)
    rw [again] at r2
    rw [← swap] at r5
    rw [if_pos (by omega), if_pos (by omega), if_pos (by omega), if_pos (by omega), rd_map ps i lp, rd_map ps j lq, r1, Option.bind_some, r2, Option.bind_some, r3, Option.bind_some, r4, Option.bind_some, r5, Option.bind_some]
    simp only []
    rw [if_pos trivial, if_pos trivial, if_pos trivial, if_pos trivial, if_pos trivial, same_is lb (sta_inv hg sa (by omega)) (by omega), Option.bind_some, if_pos rfl, same_is lb (sta_inv hg sb (by omega)) (by omega), Option.bind_some, if_pos rfl, awake_is (by omega), Option.bind_some]
end Go.Proofs.Ytglpnbcockancaa.Pure
