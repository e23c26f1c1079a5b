/- What the printed functions of upload answer: the packet, its checksum, equality of packets. -/
import Derived.Test.YtglpnbcockancaaQx1
import Derived.Test.YtglpnbcockancaaDig
namespace Go.Proofs.Ytglpnbcockancaa.Upl
open Go.RowKit Go.Proofs.Ytglpnbcockancaa.Q Go.Proofs.Ytglpnbcockancaa.Dig Go.Proofs.YtglpnbcockancaaW.PrintWords Go.Proofs.YtglpnbcockancaaW.PrintLast

/-- the first rule of a packet -/
def okP (s a n : Int) : Bool := decide (1 ≤ s ∧ s ≤ 9999999 ∧ 0 ≤ a ∧ a ≤ 1048576 ∧ 1 ≤ n ∧ n ≤ 2000 ∧ a + n ≤ 1048576)
/-- the checksum -/
def sumP (s a : Int) (l : List Int) : Int := iv (addB Dig.start (be8 (iv (addB (addB Dig.start (be8 s)) (be8 a))) ++ l))

theorem fits_is (s a : Int) (l : List Int) (x : Int) : upload_fits.f s a l x = some (okP s a l.length) := by
  unfold upload_fits.f upload_number.f okP
  by_cases h1 : s ≥ 1
  · rw [if_pos h1, Option.bind_some]
    by_cases h2 : s ≤ 9999999
    · rw [if_pos (decide_eq_true h2)]
      by_cases h3 : a ≥ 0
      · rw [if_pos h3]
        by_cases h4 : a ≤ 1048576
        · rw [if_pos h4]
          by_cases h5 : (l.length : Int) ≥ 1
          · rw [if_pos h5]
            by_cases h6 : (l.length : Int) ≤ 2000
            · rw [if_pos h6, w64 (by omega) (by omega)]
              congr 1
              by_cases h7 : a + (l.length : Int) ≤ 1048576
              · rw [decide_eq_true h7, decide_eq_true (by omega)]
              · rw [decide_eq_false h7, decide_eq_false (by omega)]
            · rw [if_neg h6, decide_eq_false (by omega)]
          · rw [if_neg h5, decide_eq_false (by omega)]
        · rw [if_neg h4, decide_eq_false (by omega)]
      · rw [if_neg h3, decide_eq_false (by omega)]
    · rw [if_neg (by simp [h2]), decide_eq_false (by omega)]
  · rw [if_neg h1, Option.bind_some, if_neg (by decide), decide_eq_false (by omega)]
theorem okP_iff {s a n : Int} : okP s a n = true ↔ 1 ≤ s ∧ s ≤ 9999999 ∧ 0 ≤ a ∧ a ≤ 1048576 ∧ 1 ≤ n ∧ n ≤ 2000 ∧ a + n ≤ 1048576 := by
  unfold okP; exact decide_eq_true_iff

theorem checksum_is {k : Nat} {s a : Int} {l : List Int} (x : Int) (h : okP s a l.length = true) (hk : 2009 ≤ k) : upload_checksum.f k s a l x = some (sumP s a l) := by
  obtain ⟨h1, h2, h3, h4, h5, h6, h7⟩ := okP_iff.1 h
  have us : U64 s := by unfold U64; omega
  have ua : U64 a := by unfold U64; omega
  unfold upload_checksum.f digest_Of.f sumP
  rw [Add_is start_u64 (by simp) (by simp; omega), Option.bind_some, Option.bind_some, addB_nil, bv_start, wrapU_id us, wrapU_id ua,
    Number_is (iv_u64 _) us (by omega), Option.bind_some, Number_is (iv_u64 _) ua (by omega), Option.bind_some, Chain_is (iv_u64 _) (by omega) (by omega) (by omega), Option.bind_some, bv_iv, bv_iv]
/-- a packet, as both packages make it -/
def pack (s a : Int) (l : List Int) : Int × Int × List Int × Int × Int := if okP s a l.length = true then (s, a, l, sumP s a l, 0) else (0, 0, [], 0, 3)
theorem Packet_is {k : Nat} (s a : Int) (l : List Int) (hl : l.length < 140737488355328) (hk : 2009 ≤ k) : upload_Packet.f k s a l = some (pack s a l) := by
  unfold upload_Packet.f bytes_Clone.f pack
  rw [if_pos hl, Option.bind_some, fits_is, Option.bind_some]
  by_cases h : okP s a l.length = true
  · rw [if_pos h, if_pos h, checksum_is 0 h hk, Option.bind_some]
  · rw [if_neg h, if_neg h]
theorem equal_l0 (l : List Int) (hl : l.length < 4611686018427387904) : ∀ (d k i : Nat), i + d = l.length → d < k →
    examboardlaw53_equal.l0 k l l (l.length : Int) (i : Int) = some true := by
  intro d
  induction d with
  | zero =>
    intro k i hd hk
    obtain ⟨k, rfl⟩ : ∃ m, k = m + 1 := ⟨k - 1, by omega⟩
    simp only [examboardlaw53_equal.l0]
    rw [if_neg (by omega)]
  | succ d ih =>
    intro k i hd hk
    obtain ⟨k, rfl⟩ : ∃ m, k = m + 1 := ⟨k - 1, by omega⟩
    simp only [examboardlaw53_equal.l0]
    rw [if_pos (by omega), if_pos (by omega), if_pos (by omega), if_pos (by omega), if_pos trivial, w64 (by omega) (by omega)]
    have h := ih k (i + 1) (by omega) (by omega)
    exact_mod_cast h
theorem equal_refl {k : Nat} {l : List Int} (hl : l.length < 4611686018427387904) (hk : l.length < k) : examboardlaw53_equal.f k l l = some true := by
  unfold examboardlaw53_equal.f
  rw [if_pos rfl]
  exact equal_l0 l hl l.length k 0 (by omega) hk
theorem samePacket_refl {k : Nat} (s a : Int) (l : List Int) (x : Int) (hl : l.length < 4611686018427387904) (hk : l.length < k) : examboardlaw53_samePacket.f k s a l x s a l x = some true := by
  unfold examboardlaw53_samePacket.f
  rw [if_pos rfl, if_pos rfl, if_pos rfl, equal_refl hl hk, Option.bind_some]

end Go.Proofs.Ytglpnbcockancaa.Upl
