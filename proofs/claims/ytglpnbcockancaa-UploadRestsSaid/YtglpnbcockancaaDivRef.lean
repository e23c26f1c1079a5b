/- The reference's divide answers the same parts of a journal; lists of packets are the same as themselves. -/
import Derived.Test.YtglpnbcockancaaQx10
import Derived.Test.YtglpnbcockancaaQx12
import Derived.Test.YtglpnbcockancaaUplRef
import Derived.Test.YtglpnbcockancaaDiv
namespace Go.Proofs.Ytglpnbcockancaa.Upl
open Go.RowKit Go.Proofs.Ytglpnbcockancaa.Q Go.Proofs.Ytglpnbcockancaa.Dig Go.Proofs.YtglpnbcockancaaW.PrintWords Go.Proofs.YtglpnbcockancaaW.PrintLast Go.Proofs.YtglpnbcockancaaW.PrintMore
theorem ref_divide_l0 {s : Int} {l : List Int} {m : Nat} (hs : 1 ≤ s ∧ s ≤ 9999999) (hl : l.length ≤ 1048576) (hm : 1 ≤ m ∧ m ≤ 2000) : ∀ (d k a : Nat) (acc : List S25), l.length ≤ a + d → a ≤ 1050576 → acc.length + d < 2932031007402 → d + 2010 ≤ k →
    examboardref53_divide.l0 k s l (m : Int) acc (a : Int) = some (acc ++ parts s l m d a, 0) := by
  intro d
  induction d with
  | zero =>
    intro k a acc h1 h2 h3 hk
    obtain ⟨k, rfl⟩ : ∃ q, k = q + 1 := ⟨k - 1, by omega⟩
    simp only [examboardref53_divide.l0, parts, List.append_nil]
    rw [if_neg (by omega)]
  | succ d ih =>
    intro k a acc h1 h2 h3 hk
    obtain ⟨k, rfl⟩ : ∃ q, k = q + 1 := ⟨k - 1, by omega⟩
    simp only [examboardref53_divide.l0, parts]
    by_cases h : a < l.length
    · have e : wrap64 ((a : Int) + (m : Int)) = ((a + m : Nat) : Int) := by rw [w64 (by omega) (by omega)]; omega
      rw [if_pos (by omega), if_pos (by omega), e, mn_nat, if_pos (by omega), if_pos (by omega), Int.toNat_natCast, Int.toNat_natCast, if_pos h]
      have hp : okP s a (piece l m a).length = true := piece_ok hs hl hm h
      rw [show List.drop a (List.take (min (a + m) l.length) l) = piece l m a from rfl, bound (ref_Packet_is (k := k) s a (piece l m a) (by omega))]
      unfold pack
      rw [if_pos hp, if_pos (by omega), ih k (a + m) _ (by omega) (by omega) (by rw [List.length_append, List.length_singleton]; omega) (by omega), List.append_assoc, List.singleton_append]
    · rw [if_neg (by omega), if_neg h, List.append_nil]

theorem ref_j0_is {s : Int} {l : List Int} {a : Nat} {m : Int} (ha : (l.length : Int) ≤ 1048576 → a ≤ 1048576) {k : Nat} (hk : 1060000 ≤ k) (b : Bool) (hb : b = false → 1 ≤ s ∧ s ≤ 9999999 ∧ 1 ≤ m ∧ m ≤ 2000 ∧ (l.length : Int) ≤ 1048576) :
    examboardref53_divide.j0 k s l a m b = some (if b = true then ([], 3) else (parts s l m.toNat l.length a, 0)) := by
  obtain ⟨k, rfl⟩ : ∃ q, k = q + 1 := ⟨k - 1, by omega⟩
  simp only [examboardref53_divide.j0]
  cases b with
  | true => rw [if_pos rfl, if_pos rfl]
  | false =>
    obtain ⟨h1, h2, h3, h4, h5⟩ := hb rfl
    have ha := ha h5
    obtain ⟨m, rfl⟩ : ∃ q : Nat, m = q := ⟨m.toNat, by omega⟩
    rw [if_neg (by decide), if_neg (by decide), ref_divide_l0 ⟨h1, h2⟩ (by omega) (by omega) l.length k a [] (by omega) (by omega) (by simp; omega) (by omega), List.nil_append, Int.toNat_natCast]
theorem ref_divide_is {k : Nat} (s : Int) (l : List Int) (a : Nat) (m : Int) (ha : (l.length : Int) ≤ 1048576 → a ≤ 1048576) (hk : 1060000 ≤ k) : examboardref53_divide.f k s l a m = some (dv s l a m) := by
  have T := fun b hb => ref_j0_is (s := s) (l := l) (m := m) ha hk b hb
  have t := T true (fun h => Bool.noConfusion h)
  unfold examboardref53_divide.f examboardref53_within.f dv
  by_cases h1 : s ≥ 1
  · rw [if_pos h1, Option.bind_some]
    by_cases h2 : s ≤ 9999999
    · rw [if_pos (decide_eq_true h2)]
      by_cases h3 : m ≥ 1
      · rw [if_pos h3, Option.bind_some]
        by_cases h4 : m ≤ 2000
        · rw [if_pos (decide_eq_true h4)]
          by_cases h5 : (l.length : Int) > 1048576
          · rw [if_pos h5, t, if_pos rfl, if_neg (by omega)]
          · rw [if_neg h5, if_neg (by omega), T _ (fun _ => ⟨h1, h2, by omega, by omega, by omega⟩)]
            congr 1
            by_cases h6 : wrap64 (Int.tdiv (wrap64 ((wrap64 ((wrap64 ((l.length : Int) - a)) + m)) - 1)) m) > 1024
            · rw [if_pos (decide_eq_true h6), if_neg (fun h => h.2.2.2.2.2 h6)]
            · rw [if_neg (by rw [decide_eq_false h6]; decide), if_pos ⟨h1, h2, by omega, by omega, by omega, h6⟩]
        · rw [if_neg (by simp [h4]), t, if_pos rfl, if_neg (by omega)]
      · rw [if_neg h3, Option.bind_some, if_neg (by decide), t, if_pos rfl, if_neg (by omega)]
    · rw [if_neg (by simp [h2]), t, if_pos rfl, if_neg (by omega)]
  · rw [if_neg h1, Option.bind_some, if_neg (by decide), t, if_pos rfl, if_neg (by omega)]

theorem samePackets_l0 (l : List S25) (hl : l.length < 4611686018427387904) (hp : ∀ p ∈ l, p.f2.length ≤ 2000) : ∀ (d k i : Nat), i + d = l.length → d + 2001 < k →
    examboardlaw53_samePackets.l0 k l l (l.length : Int) (i : Int) = some true := by
  intro d
  induction d with
  | zero =>
    intro k i hd hk
    obtain ⟨k, rfl⟩ : ∃ m, k = m + 1 := ⟨k - 1, by omega⟩
    simp only [examboardlaw53_samePackets.l0]
    rw [if_neg (by omega)]
  | succ d ih =>
    intro k i hd hk
    obtain ⟨k, rfl⟩ : ∃ m, k = m + 1 := ⟨k - 1, by omega⟩
    simp only [examboardlaw53_samePackets.l0]
    have hq := hp (rd_T25 l (i : Int)) (by rw [rd25 l i (by omega)]; exact List.getElem_mem _)
    rw [if_pos (by omega), if_pos (by omega), if_pos (by omega), if_pos (by omega), bound (samePacket_refl _ _ _ _ (by omega) (by omega)), if_pos rfl, w64 (by omega) (by omega)]
    have h := ih k (i + 1) (by omega) (by omega)
    exact_mod_cast h
theorem samePackets_refl {k : Nat} {l : List S25} (hl : l.length < 4611686018427387904) (hp : ∀ p ∈ l, p.f2.length ≤ 2000) (hk : l.length + 2001 < k) : examboardlaw53_samePackets.f k l l = some true := by
  unfold examboardlaw53_samePackets.f
  rw [if_pos rfl]
  exact samePackets_l0 l hl hp l.length k 0 (by omega) hk
theorem dv_same {k : Nat} (s : Int) (l : List Int) (a : Nat) (m : Int) (hk : 1060000 ≤ k) : examboardlaw53_samePackets.f k (dv s l a m).1 (dv s l a m).1 = some true := by
  unfold dv
  split
  · rename_i h
    have hl := parts_length s l m.toNat l.length a
    show examboardlaw53_samePackets.f k (parts s l m.toNat l.length a) (parts s l m.toNat l.length a) = some true
    refine samePackets_refl (by omega) (fun p hp => ?_) (by omega)
    obtain ⟨a', _, rfl⟩ := parts_all s l m.toNat l.length a p hp
    show (piece l m.toNat a').length ≤ 2000
    rw [piece_length]; omega
  · exact samePackets_refl (by simp) (fun p hp => by simp at hp) (by simp; omega)

end Go.Proofs.Ytglpnbcockancaa.Upl
