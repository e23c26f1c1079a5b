/- Words of the kit's printer that this claim uses, cut to these by wip/trim.py. -/
import Derived.Test.YteeggfnailpcpaaDoorQx11
import Derived.Test.YteeggfnailpcpaaDoorDig
namespace Go.Proofs.YteeggfnailpcpaaDoor.Dig
open Go.RowKit Go.Proofs.YteeggfnailpcpaaDoor.Q Go.Proofs.YteeggfnailpcpaaDoorW.PrintWords Go.Proofs.YteeggfnailpcpaaDoorW.PrintLast Go.Proofs.YteeggfnailpcpaaDoorW.PrintMore

theorem ref_Add_l0 (l : List Int) (hl : l.length < 4611686018427387904) : ∀ (d k i : Nat) (H : BitVec 64), i + d = l.length → d < k →
    examboardref11_Add.l0 k (iv H) l (i : Int) = some (iv (addB H (l.drop i))) := by
  intro d
  induction d with
  | zero =>
    intro k i H hd hk
    obtain ⟨k, rfl⟩ : ∃ m, k = m + 1 := ⟨k - 1, by omega⟩
    simp only [examboardref11_Add.l0]
    rw [if_neg (by omega), List.drop_of_length_le (by omega), addB_nil]
  | succ d ih =>
    intro k i H hd hk
    obtain ⟨k, rfl⟩ : ∃ m, k = m + 1 := ⟨k - 1, by omega⟩
    simp only [examboardref11_Add.l0, examboardref11_extend.f, Option.bind_some]
    rw [if_pos (by omega), if_pos (by omega), ext_is, bv_wrap, bv_iv, w64 (by omega) (by omega)]
    have h := ih k (i + 1) (E H (bv (rd l (i : Int)))) (by omega) (by omega)
    rw [drop_at l i (by omega), addB_cons]
    exact_mod_cast h
theorem ref_Add_is {k : Nat} {h : Int} {l : List Int} (hh : U64 h) (hl : l.length < 4611686018427387904) (hk : l.length < k) :
    examboardref11_Add.f k h l = some (iv (addB (bv h) l)) := by
  have e := ref_Add_l0 l hl l.length k 0 (bv h) (by omega) hk
  rw [iv_bv hh] at e
  exact e
theorem ref_Number_round (k : Nat) (H : BitVec 64) (n : Int) (s : Nat) (hs : s ≤ 7) :
    examboardref11_Number.l0 (k + 1) (iv H) n (s : Int) = examboardref11_Number.l0 k (iv (E H (bv (n / 2 ^ (8 * s) % 256)))) n ((s : Int) - 1) := by
  simp only [examboardref11_Number.l0, examboardref11_extend.f, Option.bind_some]
  have e : IntKind.u64.wrap (s : Int) = (s : Int) := wrapU_id (by unfold U64; omega)
  have e8 : IntKind.u64.wrap (8 * (s : Int)) = ((8 * s : Nat) : Int) := by rw [wrapU_id (by unfold U64; omega)]; omega
  rw [if_pos (by omega), e, e8, if_pos (by omega), shrU n (8 * s) (by omega), ext_is, bv_wrap, bv_iv, w64 (by omega) (by omega)]
theorem ref_Number_is {k : Nat} {h n : Int} (hh : U64 h) (hk : 9 ≤ k) : examboardref11_Number.f k h n = some (iv (addB (bv h) (be8 n))) := by
  obtain ⟨k, rfl⟩ : ∃ m, k = m + 9 := ⟨k - 9, by omega⟩
  unfold examboardref11_Number.f
  have e := iv_bv hh
  have r := fun (k s : Nat) (H : BitVec 64) (hs : s ≤ 7) => ref_Number_round k H n s hs
  have r0 := r (k + 8) 7 (bv h) (by omega); have r1 := fun H => r (k + 7) 6 H (by omega); have r2 := fun H => r (k + 6) 5 H (by omega); have r3 := fun H => r (k + 5) 4 H (by omega)
  have r4 := fun H => r (k + 4) 3 H (by omega); have r5 := fun H => r (k + 3) 2 H (by omega); have r6 := fun H => r (k + 2) 1 H (by omega); have r7 := fun H => r (k + 1) 0 H (by omega)
  simp only [Int.cast_ofNat_Int, e] at r0 r1 r2 r3 r4 r5 r6 r7
  simp only [Int.reduceSub, Nat.reduceMul] at r0 r1 r2 r3 r4 r5 r6 r7
  rw [r0, r1, r2, r3, r4, r5, r6, r7]
  simp only [examboardref11_Number.l0]
  rw [if_neg (by omega)]
  simp only [be8, addB, List.foldl, Int.pow_zero, Int.ediv_one]
theorem ref_Chain_is {k : Nat} {h : Int} {l : List Int} (hl : l.length < 4611686018427387904) (hk : l.length < k) (hk9 : 9 ≤ k) :
    examboardref11_Chain.f k h l = some (iv (addB start (be8 h ++ l))) := by
  unfold examboardref11_Chain.f
  rw [ref_Number_is start_u64 hk9, Option.bind_some, ref_Add_is (iv_u64 _) hl hk, Option.bind_some, bv_iv, bv_start, addB_append]
end Go.Proofs.YteeggfnailpcpaaDoor.Dig
