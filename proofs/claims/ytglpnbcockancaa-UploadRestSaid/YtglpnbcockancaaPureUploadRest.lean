import Derived.Test.YtglpnbcockancaaQx21
import Derived.Test.YtglpnbcockancaaSta
import Derived.Test.YtglpnbcockancaaRst
import Derived.Test.YtglpnbcockancaaExample
namespace Go.Proofs.Ytglpnbcockancaa.Pure
open Go.RowKit Go.Proofs.Ytglpnbcockancaa.Q Go.Proofs.Ytglpnbcockancaa.Dig Go.Proofs.Ytglpnbcockancaa.Upl Go.Proofs.Ytglpnbcockancaa.Canon Go.Proofs.YtglpnbcockancaaW.PrintWords Go.Proofs.YtglpnbcockancaaW.PrintLast

variable {b : List Int}
theorem rest_l0 (hb : b.length ≤ 80) (hB : Bytes b) {ps : List P} (hg : ∀ p ∈ ps, good b p) {D0 : Nat} (hD : D0 ≤ b.length) {qs : List P} (hq : ∀ p ∈ qs, p ∈ ps)
    (hc : ∀ i, D0 ≤ i → i < b.length → ∃ p ∈ qs, p.1 ≤ i ∧ i < p.1 + p.2) (hn : qs.length ≤ 80) : ∀ (d k i : Nat) (s : Nat × List P) (S : P → Prop), i + d = qs.length → Canon.Can S s → (∀ q, S q → q ∈ ps) → (∀ j, (h : j < qs.length) → j < i → S qs[j]) → s.2.length ≤ 30 + i → D0 ≤ s.1 → 1060100 + d ≤ k →
    examboardlaw53_UploadRest.l0 k b (qs.map (pk b)) (qs.length : Int) (i : Int) 5 (b.take s.1) (s.2.map (pk b)) = some true := by
  intro d
  induction d with
  | zero =>
    intro k i s S hi h1 h2 h3 h4 h5 hk
    obtain ⟨k, rfl⟩ : ∃ q, k = q + 1 := ⟨k - 1, by omega⟩
    have top : s.1 = b.length := by
      refine Nat.le_antisymm (can_top h1 fun p hp => (hg p (h2 p hp)).2) (Nat.le_of_not_lt fun c => ?_)
      obtain ⟨p, hp, h6, h7⟩ := hc s.1 h5 c
      obtain ⟨j, hj, rfl⟩ := List.getElem_of_mem hp
      have := h1.c1 _ (h3 j hj (by omega)) h6
      omega
    have nil : s.2 = [] := by
      refine List.eq_nil_iff_forall_not_mem.2 fun q hq => ?_
      have h6 := (h1.c3 q).1 hq
      have h7 := (hg q (h2 q h6.1))
      unfold good at h7; omega
    have all : b.take s.1 = b := by rw [top]; exact List.take_length
    simp only [examboardlaw53_UploadRest.l0]
    have r1 : rs 5 b b 1 = ([], 0) := by
      unfold rs
      rw [if_pos ⟨Nat.le_refl _, List.take_length⟩]
      have := dv_is hb (Nat.le_refl b.length) (m := 1) (by omega)
      rw [cuts_end _ _ _ _ (Nat.le_refl _)] at this
      exact this
    rw [if_neg (by omega), nil, all, Rest_is 5 _ 1 hB hB (by omega), Option.bind_some, equal_refl (by omega) (by omega), Option.bind_some, if_pos rfl, r1]
    simp only []
    rw [if_pos (by simp), if_pos (by simp), if_pos trivial, awake_is (by omega), Option.bind_some]
  | succ d ih =>
    intro k i s S hi h1 h2 h3 h4 h5 hk
    obtain ⟨k, rfl⟩ : ∃ q, k = q + 1 := ⟨k - 1, by omega⟩
    have hi' : i < qs.length := by omega
    have hp := hq qs[i] (List.getElem_mem _)
    have inv : Inv b s := inv_of h1 (fun q hq => hg q (h2 q hq)) (by omega)
    have le := rcv_le s qs[i]
    have inv' : (rcv s qs[i]).1 ≤ b.length := can_top (can_rcv h1 qs[i]) fun p h => by
      rcases h with h | rfl
      · exact (hg p (h2 p h)).2
      · exact (hg _ hp).2
    simp only [examboardlaw53_UploadRest.l0, upload_Need.f]
    rw [if_pos (by omega), if_pos (by omega), if_pos (by rw [List.length_map]; omega), rd_map qs i hi', Receive_is hb inv (hg _ hp) (by omega), Option.bind_some, if_pos rfl, Option.bind_some, Option.bind_some,
      if_neg (by show ¬ ((b.take (rcv s qs[i]).1).length : Int) < ((b.take s.1).length : Int); rw [List.length_take, List.length_take]; have := inv.top; omega), Upl.next i (by omega)]
    refine ih k (i + 1) _ _ (by omega) (can_rcv h1 qs[i]) (fun q h => ?_) (fun j hj hlt => ?_) (by have := rcv_length s qs[i]; omega) (by omega) (by omega)
    · rcases h with h | rfl
      · exact h2 q h
      · exact hp
    · by_cases c : j < i
      · exact .inl (h3 j hj c)
      · obtain rfl : j = i := by omega
        exact .inr rfl
theorem UploadRest (l o : List Int) (x y n : Int) (hl : Bytes l) (ho : Bytes o) (hx : 0 ≤ x ∧ x < 256) (hy : 0 ≤ y ∧ y < 256) (hn : 0 ≤ n ∧ n < 256) : ∃ k, examboardlaw53_UploadRest.f k l x y o n = some true := by
  obtain ⟨k, hk⟩ : ∃ k : Nat, 1070000 ≤ k := ⟨_, Nat.le_refl _⟩
  refine ⟨k, ?_⟩
  have lb := jr_length l
  have hB : Bytes (jr l) := bytes_take hl _
  obtain ⟨s, hs, es⟩ := state_is lb (fl_good l x y) ho (k := k) (by omega)
  unfold examboardlaw53_UploadRest.f
  rw [fleet_is l hx hy (by omega), Option.bind_some, es, Option.bind_some, if_pos rfl, if_pos rfl, show (20 : Int) = ((20 : Nat) : Int) from rfl, size_is hn 20 (by decide)]
  have m20 : n.toNat % 20 < 20 := Nat.mod_lt _ (by decide)
  generalize n.toNat % 20 = m at m20
  obtain ⟨S, h1, h2, h3⟩ := hs
  have top : s.1 ≤ (jr l).length := can_top h1 fun p hp => (fl_good l x y p (h2 p hp)).2
  have r1 : rs 5 ((jr l).take s.1) (jr l) ((m + 1 : Nat) : Int) = ((cuts (jr l).length (m + 1) (jr l).length s.1).map (pk (jr l)), 0) := by
    unfold rs
    have e : ((jr l).take s.1).length = s.1 := by rw [List.length_take]; omega
    rw [e, if_pos ⟨top, rfl⟩]
    exact dv_is lb top (m := m + 1) (by omega)
  show (upload_Rest.f k 5 ((jr l).take s.1) (s.2.map (pk (jr l))) (jr l) ((m + 1 : Nat) : Int)).bind _ = _
  rw [Rest_is 5 _ _ (bytes_take hB _) hB (by omega), Option.bind_some, r1, if_pos rfl]
  have len := cuts_length (jr l).length (m + 1) (jr l).length s.1
  show examboardlaw53_UploadRest.l0 k (jr l) ((cuts (jr l).length (m + 1) (jr l).length s.1).map (pk (jr l))) _ 0 5 ((jr l).take s.1) (s.2.map (pk (jr l))) = some true
  rw [List.length_map]
  refine rest_l0 lb hB (ps := fl l x y ++ cuts (jr l).length (m + 1) (jr l).length s.1) (fun p hp => ?_) top (fun p hp => List.mem_append_right _ hp) (cuts_cover _ _ (by omega) _ _ (by omega)) (by omega) (cuts (jr l).length (m + 1) (jr l).length s.1).length k 0 s S (Nat.zero_add _) h1 (fun q hq => List.mem_append_left _ (h2 q hq)) (fun j _ h => absurd h (by omega)) (by omega) (Nat.le_refl _) (by omega)
  rcases List.mem_append.1 hp with hp | hp
  · exact fl_good l x y p hp
  · exact cuts_good _ _ (by omega) _ _ p hp
end Go.Proofs.Ytglpnbcockancaa.Pure
