/- What the reference's functions of a packet answer. -/
import Derived.Test.YtglpnbcockancaaQx11
import Derived.Test.YtglpnbcockancaaRefDig
import Derived.Test.YtglpnbcockancaaUpl
namespace Go.Proofs.Ytglpnbcockancaa.Upl
open Go.RowKit Go.Proofs.Ytglpnbcockancaa.Q Go.Proofs.Ytglpnbcockancaa.Dig Go.Proofs.YtglpnbcockancaaW.PrintWords Go.Proofs.YtglpnbcockancaaW.PrintLast
theorem ranged_is (s a n : Int) : examboardref53_ranged.f s a n = some (okP s a n) := by
  unfold examboardref53_ranged.f examboardref53_within.f okP
  by_cases h1 : s ≥ 1
  · rw [if_pos h1, Option.bind_some]
    by_cases h2 : s ≤ 9999999
    · rw [if_pos (decide_eq_true h2)]
      by_cases h3 : a ≥ 0
      · rw [if_pos h3, Option.bind_some]
        by_cases h4 : a ≤ 1048576
        · rw [if_pos (decide_eq_true h4)]
          by_cases h5 : n ≥ 1
          · rw [if_pos h5, Option.bind_some]
            by_cases h6 : n ≤ 2000
            · rw [if_pos (decide_eq_true h6), w64 (by omega) (by omega)]
              congr 1
              by_cases h7 : a + n ≤ 1048576
              · rw [decide_eq_true h7, decide_eq_true (by omega)]
              · rw [decide_eq_false h7, decide_eq_false (by omega)]
            · rw [if_neg (by simp [h6]), decide_eq_false (by omega)]
          · rw [if_neg h5, Option.bind_some, if_neg (by decide), decide_eq_false (by omega)]
        · rw [if_neg (by simp [h4]), decide_eq_false (by omega)]
      · rw [if_neg h3, Option.bind_some, if_neg (by decide), decide_eq_false (by omega)]
    · rw [if_neg (by simp [h2]), decide_eq_false (by omega)]
  · rw [if_neg h1, Option.bind_some, if_neg (by decide), decide_eq_false (by omega)]
theorem sum_is {k : Nat} {s a : Int} {l : List Int} (h : okP s a l.length = true) (hk : 2009 ≤ k) : examboardref53_sum.f k s a l = some (sumP s a l) := by
  obtain ⟨h1, h2, h3, h4, h5, h6, h7⟩ := okP_iff.1 h
  have us : U64 s := by unfold U64; omega
  have ua : U64 a := by unfold U64; omega
  unfold examboardref53_sum.f examboardref11_Of.f sumP
  rw [ref_Add_is start_u64 (by simp) (by simp; omega), Option.bind_some, Option.bind_some, addB_nil, bv_start, wrapU_id us, wrapU_id ua,
    ref_Number_is (iv_u64 _) (by omega), Option.bind_some, ref_Number_is (iv_u64 _) (by omega), Option.bind_some, ref_Chain_is (by omega) (by omega) (by omega), Option.bind_some, bv_iv, bv_iv]

theorem copied_l0 (l : List Int) (hl : l.length < 140737488355328) : ∀ (d k i : Nat), i + d = l.length → d < k →
    examboardref53_copied.l0 k (l.take i) l (l.length : Int) (i : Int) = some l := by
  intro d
  induction d with
  | zero =>
    intro k i hd hk
    obtain ⟨k, rfl⟩ : ∃ m, k = m + 1 := ⟨k - 1, by omega⟩
    simp only [examboardref53_copied.l0]
    rw [if_neg (by omega), List.take_of_length_le (by omega)]
  | succ d ih =>
    intro k i hd hk
    obtain ⟨k, rfl⟩ : ∃ m, k = m + 1 := ⟨k - 1, by omega⟩
    simp only [examboardref53_copied.l0]
    rw [if_pos (by omega), if_pos (by omega), if_pos (by omega), if_pos (by rw [List.length_take]; omega), w64 (by omega) (by omega), rd_at l i (by omega), List.take_append_getElem (by omega)]
    have h := ih k (i + 1) (by omega) (by omega)
    exact_mod_cast h
theorem copied_is {k : Nat} {l : List Int} (hl : l.length < 140737488355328) (hk : l.length < k) : examboardref53_copied.f k l = some l :=
  copied_l0 l hl l.length k 0 (by omega) hk
theorem ref_Packet_is {k : Nat} (s a : Int) (l : List Int) (hk : 2009 ≤ k) : examboardref53_Packet.f k s a l = some (pack s a l) := by
  unfold examboardref53_Packet.f pack
  rw [ranged_is, Option.bind_some]
  by_cases h : okP s a l.length = true
  · obtain ⟨h1, h2, h3, h4, h5, h6, h7⟩ := okP_iff.1 h
    rw [if_pos h, if_pos h, copied_is (by omega) (by omega), Option.bind_some, sum_is h hk, Option.bind_some]
  · rw [if_neg h, if_neg h]

end Go.Proofs.Ytglpnbcockancaa.Upl
