/- CipherDetects: sealed bytes (of up to 4,000 plain ones) of which one byte is changed, and a key of which one byte is changed, are refused with ErrDigest. -/
import Derived.Test.YtcohkopbgfnlbaaPureCipherRoundTrip
namespace Go.Proofs.Ytcohkopbgfnlbaa.Pure
open Go.RowKit Go.Proofs.Ytcohkopbgfnlbaa.Q Go.Proofs.YtcohkopbgfnlbaaW.PrintWords Go.Proofs.YtcohkopbgfnlbaaW.PrintLast Go.Proofs.YtcohkopbgfnlbaaW.PrintMore Go.Proofs.Ytcohkopbgfnlbaa.Dig Go.Proofs.Ytcohkopbgfnlbaa.Cip
theorem byte_xor (K C j : Nat) : (K ^^^ C) / 2 ^ (8 * j) % 2 ^ 8 = (K / 2 ^ (8 * j) % 2 ^ 8) ^^^ (C / 2 ^ (8 * j) % 2 ^ 8) := by
  rw [← Nat.shiftRight_eq_div_pow, ← Nat.shiftRight_eq_div_pow, ← Nat.shiftRight_eq_div_pow, Nat.shiftRight_xor_distrib, Nat.xor_mod_two_pow]
theorem byte_of (c : Nat) (hc : c < 256) (s j : Nat) : c * 2 ^ (8 * s) / 2 ^ (8 * j) % 2 ^ 8 = if j = s then c else 0 := by
  by_cases h : j = s
  · subst h
    rw [if_pos rfl, Nat.mul_div_cancel _ (Nat.pow_pos (by decide)), Nat.mod_eq_of_lt hc]
  · rw [if_neg h]
    by_cases h2 : j < s
    · obtain ⟨d, rfl⟩ : ∃ d, s = j + (d + 1) := ⟨s - j - 1, by omega⟩
      rw [Nat.mul_add, Nat.pow_add, ← Nat.mul_assoc, Nat.mul_right_comm, Nat.mul_div_cancel _ (Nat.pow_pos (by decide)), Nat.mul_add 8 d 1, Nat.pow_add, ← Nat.mul_assoc]
      exact Nat.mul_mod_left _ _
    · obtain ⟨d, rfl⟩ : ∃ d, j = s + (d + 1) := ⟨j - s - 1, by omega⟩
      rw [Nat.mul_add, Nat.pow_add, ← Nat.div_div_eq_div_mul, Nat.mul_div_cancel _ (Nat.pow_pos (by decide)), Nat.div_eq_of_lt]
      have : 2 ^ 8 ≤ 2 ^ (8 * (d + 1)) := Nat.pow_le_pow_right (by decide) (by omega)
      omega
/-- the key with one byte changed -/
def other (key c : Int) (s : Nat) : Int := Go.bits .xor .u64 key (shl .u64 c ((8 * s : Nat) : Int))
theorem other_u64 (key c : Int) (s : Nat) : U64 (other key c s) := by unfold other; rw [bits_xor]; exact iv_u64 _
theorem other_byte {key c : Int} (uk : U64 key) (hc : 0 ≤ c ∧ c < 256) {s : Nat} (hs : s < 8) (j : Nat) :
    other key c s / 2 ^ (8 * j) % 256 = if j = s then xb (key / 2 ^ (8 * j) % 256) c else key / 2 ^ (8 * j) % 256 := by
  obtain ⟨K, rfl⟩ := Int.eq_ofNat_of_zero_le uk.1
  obtain ⟨C, rfl⟩ := Int.eq_ofNat_of_zero_le hc.1
  have hK : K < 18446744073709551616 := by have := uk.2; omega
  have hC : C < 256 := by omega
  have hp : C * 2 ^ (8 * s) < 18446744073709551616 := by
    have h1 : 2 ^ (8 * s) ≤ 2 ^ 56 := Nat.pow_le_pow_right (by decide) (by omega)
    have h2 : C * 2 ^ (8 * s) ≤ 255 * 2 ^ 56 := Nat.mul_le_mul (by omega) h1
    omega
  have es : shl .u64 (C : Int) ((8 * s : Nat) : Int) = ((C * 2 ^ (8 * s) : Nat) : Int) := by
    unfold shl
    rw [show min ((8 * s : Nat) : Int).toNat IntKind.u64.bits = 8 * s from by simp [IntKind.bits]; omega]
    rw [show (C : Int) * 2 ^ (8 * s) = ((C * 2 ^ (8 * s) : Nat) : Int) from by push_cast; rfl]
    exact wrapU_id (by unfold U64; omega)
  have eo : other (K : Int) (C : Int) s = ((K ^^^ (C * 2 ^ (8 * s)) : Nat) : Int) := by
    unfold other
    rw [es, bits_xor]
    unfold iv bv
    rw [BitVec.toNat_xor, BitVec.ofInt_natCast, BitVec.ofInt_natCast, BitVec.toNat_ofNat, BitVec.toNat_ofNat, Nat.mod_eq_of_lt hK, Nat.mod_eq_of_lt hp]
  rw [eo]
  have hb := byte_xor K (C * 2 ^ (8 * s)) j
  rw [byte_of C hC s j] at hb
  have e1 : (((K ^^^ (C * 2 ^ (8 * s)) : Nat) : Int)) / 2 ^ (8 * j) % 256 = (((K ^^^ (C * 2 ^ (8 * s))) / 2 ^ (8 * j) % 2 ^ 8 : Nat) : Int) := by rw [Int.natCast_emod, Int.natCast_ediv, Int.natCast_pow]; rfl
  have e2 : (K : Int) / 2 ^ (8 * j) % 256 = ((K / 2 ^ (8 * j) % 2 ^ 8 : Nat) : Int) := by rw [Int.natCast_emod, Int.natCast_ediv, Int.natCast_pow]; rfl
  rw [e1, hb, e2]
  have hlt : K / 2 ^ (8 * j) % 2 ^ 8 < 256 := Nat.mod_lt _ (by decide)
  by_cases h : j = s
  · rw [if_pos h, if_pos h, xb_nat (by omega) (by omega)]
    rfl
  · rw [if_neg h, if_neg h, Nat.xor_zero]
theorem be8_list (n : Int) : be8 n = (List.range' 0 8).map fun (i : Nat) => n / 2 ^ (8 * (7 - i)) % 256 := by
  simp [be8, List.range']
theorem be8_other {key c : Int} (uk : U64 key) (hc : 0 ≤ c ∧ c < 256) {s : Nat} (hs : s < 8) :
    be8 (other key c s) = (be8 key).set (7 - s) (xb ((be8 key).getD (7 - s) 0) c) := by
  have hg : ∀ i : Nat, i < 8 → (be8 key).getD i 0 = key / 2 ^ (8 * (7 - i)) % 256 := by
    intro i hi
    rw [be8_list, List.getD_eq_getElem?_getD, List.getElem?_eq_getElem (by simpa using hi), Option.getD_some]
    simp
  apply List.ext_getElem
  · rw [List.length_set, be8_length, be8_length]
  · intro i h1 h2
    have hi : i < 8 := by rw [be8_length] at h1; exact h1
    have e1 : (be8 (other key c s))[i] = other key c s / 2 ^ (8 * (7 - i)) % 256 := by
      simp only [be8_list, List.getElem_map, List.getElem_range', Nat.zero_add, Nat.one_mul]
    have e2 : (be8 key)[i]'(by rw [be8_length]; exact hi) = key / 2 ^ (8 * (7 - i)) % 256 := by
      simp only [be8_list, List.getElem_map, List.getElem_range', Nat.zero_add, Nat.one_mul]
    refine e1.trans ?_
    rw [other_byte uk hc hs, List.getElem_set, e2, hg (7 - s) (by omega)]
    by_cases h : 7 - i = s
    · rw [if_pos h, if_pos (by omega), show 7 - (7 - s) = 7 - i from by omega]
    · rw [if_neg h, if_neg (by omega)]
theorem opened_bad {key : Int} {s : List Int} (h1 : 16 ≤ s.length) (h2 : s.length ≤ 1048592) (h : tag key (s.take (s.length - 8)) ≠ rdL 0 (s.drop (s.length - 8))) : opened key s = ([], 0, 12) := by
  unfold opened
  rw [if_neg (by omega), if_neg (by omega), if_neg h]
/-- another byte in what is digested: another tag -/
theorem tag_set {l m : List Int} {i : Nat} {c : Int} (hl : Bytes l) (hi : i < l.length) (hc : 0 ≤ c ∧ c < 256) (h0 : c ≠ 0) (hm : m = l.set i (xb (l.getD i 0) c)) :
    iv (addB Dig.start m) ≠ iv (addB Dig.start l) := by
  intro e
  have e := iv_inj e
  have hb : 0 ≤ l.getD i 0 ∧ l.getD i 0 < 256 := by
    apply hl
    rw [List.getD_eq_getElem?_getD, List.getElem?_eq_getElem hi, Option.getD_some]
    exact List.getElem_mem hi
  rw [hm, addB_change hl (xb_range hb hc) hi] at e
  exact xb_ne hb hc h0 e.symm
theorem opened_other {key nonce c : Int} {p : List Int} (uk : U64 key) (bp : Bytes p) (hp : p.length ≤ 4000) (hc : 0 ≤ c ∧ c < 256) (h0 : c ≠ 0) {s : Nat} (hs : s < 8) :
    opened (other key c s) (sealed key nonce p) = ([], 0, 12) := by
  have hl := sealed_length key nonce p
  refine opened_bad (by omega) (by omega) ?_
  rw [sealed_take, sealed_drop, rdL_be8 (tag_u64 _ _)]
  have hb : Bytes (be8 key ++ body key nonce p) := by
    intro x hx
    simp only [body, List.mem_append] at hx
    rcases hx with hx | hx | hx
    · exact be8_bytes _ x hx
    · exact be8_bytes _ x hx
    · exact mixL_bytes _ bp x hx
  refine tag_set hb (i := 7 - s) (c := c) (by rw [List.length_append, be8_length]; omega) hc h0 ?_
  rw [be8_other uk hc hs, List.set_append_left _ _ (by rw [be8_length]; omega)]
  congr 2
  rw [List.getD_eq_getElem?_getD, List.getD_eq_getElem?_getD, List.getElem?_append_left (by rw [be8_length]; omega)]
theorem opened_change {key nonce c : Int} {p : List Int} (bp : Bytes p) (hp : p.length ≤ 4000) (hc : 0 ≤ c ∧ c < 256) (h0 : c ≠ 0) {i : Nat} (hi : i < (sealed key nonce p).length) :
    opened key ((sealed key nonce p).set i (xb ((sealed key nonce p).getD i 0) c)) = ([], 0, 12) := by
  have hl := sealed_length key nonce p
  have hbl := body_length key nonce p
  refine opened_bad (by rw [List.length_set]; omega) (by rw [List.length_set]; omega) ?_
  rw [List.length_set]
  have hb : Bytes (be8 key ++ body key nonce p) := by
    intro x hx
    simp only [body, List.mem_append] at hx
    rcases hx with hx | hx | hx
    · exact be8_bytes _ x hx
    · exact be8_bytes _ x hx
    · exact mixL_bytes _ bp x hx
  by_cases h1 : i < p.length + 8
  · rw [List.drop_set_of_lt (by omega), sealed_drop, rdL_be8 (tag_u64 _ _), List.take_set, sealed_take]
    have hg : (sealed key nonce p).getD i 0 = (body key nonce p).getD i 0 := by
      unfold sealed
      rw [List.getD_eq_getElem?_getD, List.getD_eq_getElem?_getD, List.getElem?_append_left (by omega)]
    refine tag_set hb (i := 8 + i) (c := c) (by rw [List.length_append, be8_length]; omega) hc h0 ?_
    rw [List.set_append_right _ _ (by rw [be8_length]; omega), be8_length, show 8 + i - 8 = i from by omega, hg]
    congr 3
    rw [List.getD_eq_getElem?_getD, List.getD_eq_getElem?_getD, List.getElem?_append_right (by rw [be8_length]; omega), be8_length, show 8 + i - 8 = i from by omega]
  · have ht : ((sealed key nonce p).set i (xb ((sealed key nonce p).getD i 0) c)).take ((sealed key nonce p).length - 8) = body key nonce p := by
      rw [List.take_set_of_le (by omega), sealed_take]
    rw [ht]
    intro e
    have hg : (sealed key nonce p).getD i 0 = (be8 (tag key (body key nonce p))).getD (i - (p.length + 8)) 0 := by
      unfold sealed
      rw [List.getD_eq_getElem?_getD, List.getD_eq_getElem?_getD, List.getElem?_append_right (by omega), hbl]
    have hd : ((sealed key nonce p).set i (xb ((sealed key nonce p).getD i 0) c)).drop ((sealed key nonce p).length - 8) = (be8 (tag key (body key nonce p))).set (i - (p.length + 8)) (xb ((sealed key nonce p).getD i 0) c) := by
      rw [List.drop_set, if_neg (by omega), sealed_drop, hl, show p.length + 16 - 8 = p.length + 8 from by omega]
    rw [hd, hg] at e
    generalize be8_eq : be8 (tag key (body key nonce p)) = t at e
    have tl : t.length = 8 := by rw [← be8_eq, be8_length]
    have tb : Bytes t := by rw [← be8_eq]; exact be8_bytes _
    have hj : i - (p.length + 8) < t.length := by omega
    generalize i - (p.length + 8) = j at e hj
    have hb2 : 0 ≤ t.getD j 0 ∧ t.getD j 0 < 256 := by
      apply tb
      rw [List.getD_eq_getElem?_getD, List.getElem?_eq_getElem hj, Option.getD_some]
      exact List.getElem_mem hj
    have hx := xb_range hb2 hc
    have sb : Bytes (t.set j (xb (t.getD j 0) c)) := by
      intro x hx'
      rcases List.mem_or_eq_of_mem_set hx' with h | h
      · exact tb x h
      · rw [h]; exact hx
    have e2 := (be8_rdL sb (by rw [List.length_set]; exact tl)).1
    rw [← e, be8_eq] at e2
    have e3 : (t.set j (xb (t.getD j 0) c)).getD j 0 = xb (t.getD j 0) c := by
      rw [List.getD_eq_getElem?_getD, List.getElem?_set_self hj, Option.getD_some]
    rw [← e2] at e3
    exact xb_ne hb2 hc h0 e3.symm
theorem CipherDetects : examboardlaw12_CipherDetects.Pure := by
  intro key nonce p at_ c wk wn hm hs wp wa wc
  have uk := u64_of_wf wk
  have bp := bytes_of_wf wp
  have hc : 0 ≤ c ∧ c < 256 := by
    simp [Lit.wf, IntKind.min, IntKind.max, IntKind.bits, IntKind.signed] at wc
    omega
  obtain ⟨k, hk⟩ : ∃ k, p.length + 80 ≤ k := ⟨_, Nat.le_refl _⟩
  refine ⟨k + 1 + 1, ?_⟩
  unfold examboardlaw12_CipherDetects.f
  by_cases h1 : (p.length : Int) > 4000
  · rw [if_pos h1]
    simp only [examboardlaw12_CipherDetects.j0]
    rw [if_pos trivial]
  rw [if_neg h1]
  by_cases h0 : c = 0
  · rw [show (c == 0) = true from by rw [h0]; rfl]
    simp only [examboardlaw12_CipherDetects.j0]
    rw [if_pos trivial]
  rw [show (c == 0) = false from beq_eq_false_iff_ne.2 h0]
  have hp2 := sealed_length key nonce p
  simp only [examboardlaw12_CipherDetects.j0]
  rw [if_neg (by decide), bound (Seal_ok uk (by omega) (by omega)), if_pos rfl, w64 (by omega) (by omega), if_pos (show ((sealed key nonce p).length : Int) = (p.length : Int) + 16 by omega)]
  have hout : examboardlaw12_CipherDetects.j1 (k + 1) key p at_ c (sealed key nonce p) 0 true = some true := by
    simp only [examboardlaw12_CipherDetects.j1]
    rw [if_pos trivial, if_pos trivial, w64 (by omega) (by omega), show ((sealed key nonce p).length : Int) = (p.length : Int) + 16 from by omega, beq_self_eq_true]
  by_cases ha : at_ < 0
  · rw [if_pos ha]; exact hout
  rw [if_neg ha]
  by_cases hb : at_ ≥ ((sealed key nonce p).length : Int)
  · rw [show decide (at_ ≥ ((sealed key nonce p, (0 : Int)).1.length : Int)) = true from decide_eq_true hb]; exact hout
  rw [show decide (at_ ≥ ((sealed key nonce p, (0 : Int)).1.length : Int)) = false from decide_eq_false hb]
  simp only [examboardlaw12_CipherDetects.j1]
  obtain ⟨i, rfl⟩ := Int.eq_ofNat_of_zero_le (show 0 ≤ at_ by omega)
  have hi : i < (sealed key nonce p).length := by omega
  have e1 : IntKind.u64.wrap (wrap64 (8 * Int.tmod (i : Int) 8)) = ((8 * (i % 8) : Nat) : Int) := by
    rw [Int.tmod_eq_emod_of_nonneg (by omega), w64 (by omega) (by omega), wrapU_id (by unfold U64; omega)]; omega
  have e2 : IntKind.u64.wrap c = c := wrapU_id (by unfold U64; omega)
  rw [if_neg (by decide), e1, e2, if_pos (by omega)]
  have hsb := sealed_bytes key nonce bp
  have o1 : cipher_Open.f k (Go.bits .xor .u64 key (shl .u64 c ((8 * (i % 8) : Nat) : Int))) (sealed key nonce p) = some ([], 0, 12) := by
    have := Open_is (k := k) (other_u64 key c (i % 8)) hsb (by omega) (by omega)
    rw [opened_other uk bp (by omega) hc h0 (by omega)] at this
    exact this
  have hcb : Bytes ((sealed key nonce p).set i (xb (rd (sealed key nonce p) (i : Int)) c)) := by
    intro x hx'
    rcases List.mem_or_eq_of_mem_set hx' with h | h
    · exact hsb x h
    · rw [h]; exact xb_range (rd_byte hsb i hi) hc
  have o2 : cipher_Open.f k key ((sealed key nonce p).set (i : Int).toNat (Go.bits .xor .u8 (rd (sealed key nonce p) (i : Int)) c)) = some ([], 0, 12) := by
    rw [Int.toNat_natCast]
    refine (Open_is (k := k) uk hcb (by rw [List.length_set]; omega) (by rw [List.length_set]; omega)).trans ?_
    have hg : rd (sealed key nonce p) (i : Int) = (sealed key nonce p).getD i 0 := by unfold rd; rw [Int.toNat_natCast]
    rw [hg, opened_change bp (by omega) hc h0 hi]
  rw [bound o1, if_pos rfl, if_pos (by omega), if_pos (show (i : Int) < ((sealed key nonce p).length : Int) by omega), bound o2, if_pos rfl]
  rfl
end Go.Proofs.Ytcohkopbgfnlbaa.Pure
