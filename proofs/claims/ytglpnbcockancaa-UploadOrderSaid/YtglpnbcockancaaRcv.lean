/- What upload.Receive answers of an empty inbox: its error. -/
import Derived.Test.YtglpnbcockancaaQx4
import Derived.Test.YtglpnbcockancaaDiv
namespace Go.Proofs.Ytglpnbcockancaa.Upl
open Go.RowKit Go.Proofs.Ytglpnbcockancaa.Q Go.Proofs.Ytglpnbcockancaa.Dig Go.Proofs.YtglpnbcockancaaW.PrintWords Go.Proofs.YtglpnbcockancaaW.PrintLast Go.Proofs.YtglpnbcockancaaW.PrintMore

/-- what check answers -/
def ck (s a : Int) (l : List Int) (x : Int) : Int := if okP s a l.length = true then if x = sumP s a l then 0 else 12 else 3
theorem check_is {k : Nat} (s a : Int) (l : List Int) (x : Int) (hk : 2009 ≤ k) : upload_check.f k s a l x = some (ck s a l x) := by
  unfold upload_check.f ck
  rw [bound (fits_is s a l x)]
  by_cases h : okP s a l.length = true
  · rw [if_pos h, if_pos h, bound (checksum_is x h hk)]
    split <;> rfl
  · rw [if_neg h, if_neg h]
theorem valid_nil {k : Nat} {s : Int} (hs : 1 ≤ s ∧ s ≤ 9999999) (hk : 1 ≤ k) : upload_valid.f k s [] [] = some true := by
  obtain ⟨k, rfl⟩ : ∃ q, k = q + 1 := ⟨k - 1, by omega⟩
  unfold upload_valid.f upload_number.f
  rw [if_pos (show s ≥ 1 from hs.1), Option.bind_some, if_pos (decide_eq_true hs.2), if_neg (by simp), if_neg (by simp)]
  simp only [upload_valid.l0]
  rw [if_neg (by simp)]
theorem agree_nil (l : List Int) (a : Int) : upload_agree.f [] 0 l a = some true := by
  unfold upload_agree.f
  rw [if_pos]
  have h1 : mx 0 a ≥ 0 := by unfold mx; split <;> omega
  have h2 : mn (wrap64 (0 + (([] : List Int).length : Int))) (wrap64 (a + (l.length : Int))) ≤ 0 := by
    rw [show wrap64 (0 + (([] : List Int).length : Int)) = 0 from by simp [wrap64]]
    unfold mn; split <;> omega
  omega
theorem conflict_nil {k : Nat} (s0 s a : Int) (l : List Int) (x : Int) (hk : 1 ≤ k) : upload_conflict.f k s0 [] [] s a l x = some false := by
  obtain ⟨k, rfl⟩ : ∃ q, k = q + 1 := ⟨k - 1, by omega⟩
  unfold upload_conflict.f upload_conflict_any.f
  rw [bound (agree_nil l a), if_pos rfl]
  simp only [upload_conflict_any.l0]
  rw [if_neg (by simp), Option.bind_some]
/-- the error that Receive answers -/
def rc (s a : Int) (l : List Int) (x : Int) : Int := if ck s a l x = 0 then if s = 5 then 0 else 6 else ck s a l x
theorem Receive_nil {k : Nat} (s a : Int) (l : List Int) (x : Int) (hl : l.length < 1000000000) (ha : 0 ≤ a ∧ a < 1000000000) (hk : 2020 ≤ k) :
    ∃ r : Int × List Int × List S25 × Int, upload_Receive.f k 5 [] [] s a l x = some r ∧ r.2.2.2 = rc s a l x := by
  unfold upload_Receive.f rc
  rw [bound (valid_nil (by omega) (by omega)), if_pos rfl, bound (check_is s a l x (by omega))]
  by_cases h : ck s a l x = 0
  · rw [if_pos h, if_pos h]
    by_cases h5 : s = 5
    · rw [if_pos h5, if_pos h5, bound (conflict_nil 5 s a l x (by omega)), if_neg (by decide)]
      unfold bytes_Clone.f
      rw [if_pos (by simp), Option.bind_some]
      obtain ⟨k, rfl⟩ : ∃ q, k = q + 2 := ⟨k - 2, by omega⟩
      by_cases g : a > (([] : List Int).length : Int)
      · rw [if_pos g]
        unfold upload_known_any.f
        simp only [upload_known_any.l0]
        rw [if_neg (by simp), Option.bind_some, if_neg (by decide), decide_eq_false (by simp)]
        simp only [upload_Receive.j0, upload_Receive.l0]
        rw [if_neg (by decide), if_neg (by simp), if_neg (by decide)]
        unfold upload_copied.f bytes_Clone.f
        rw [if_pos (by omega), Option.bind_some, Option.bind_some, if_pos (by simp)]
        exact ⟨_, rfl, rfl⟩
      · rw [if_neg g]
        have a0 : a = 0 := by simp at g; omega
        subst a0
        unfold upload_extended.f
        have e : mn (wrap64 ((([] : List Int).length : Int) - 0)) (l.length : Int) = 0 := by
          rw [show wrap64 ((([] : List Int).length : Int) - 0) = 0 from by simp [wrap64]]
          unfold mn; split <;> omega
        rw [e, if_pos (by omega), if_pos (by omega), Option.bind_some, if_pos (by simp; omega), Option.bind_some]
        simp only [upload_Receive.l1]
        rw [if_neg (by simp)]
        exact ⟨_, rfl, rfl⟩
    · rw [if_neg h5, if_neg h5]
      exact ⟨_, rfl, rfl⟩
  · rw [if_neg h, if_neg h]
    exact ⟨_, rfl, rfl⟩
end Go.Proofs.Ytglpnbcockancaa.Upl
