/- Words of the kit's printer that this claim uses, cut to these by wip/trim.py. -/
import Derived.Test.YteeggfnailpcpaaDoorJouR
import Derived.Test.YteeggfnailpcpaaDoorCodR
import Derived.Test.YteeggfnailpcpaaDoorQx16
namespace Go.Proofs.YteeggfnailpcpaaDoor.Jou
open Go.RowKit Go.Proofs.YteeggfnailpcpaaDoor.Q Go.Proofs.YteeggfnailpcpaaDoorW.PrintWords Go.Proofs.YteeggfnailpcpaaDoorW.PrintLast Go.Proofs.YteeggfnailpcpaaDoorW.PrintMore
open Go.Proofs.YteeggfnailpcpaaDoor.Cod (Bytes pn enc Ok Wf Fit pn_enc pn_acc enc_bytes bytes_append w64 wU orU nul)
open Go.Proofs.YteeggfnailpcpaaDoor.Dig (be8 addB iv bv U64 be8_length be8_bytes addB_append iv_u64 bv_iv iv_bv shrU)

theorem rbytes_step {k i : Nat} {x : Int} {b : List Int} (hx : U64 x) (hi : i < b.length) (hb : b.length ≤ 8) :
    examboardref49_bytes.l0 (k + 1) x b (i : Int) = examboardref49_bytes.l0 k (x / 256) (b.set i (x % 256)) ((i : Int) - 1) := by
  simp only [examboardref49_bytes.l0]
  obtain ⟨h0, h1⟩ := hx
  rw [if_pos (by omega), if_pos (by omega), if_pos (by omega), Int.tdiv_eq_ediv_of_nonneg h0, Int.tmod_eq_emod_of_nonneg h0, wU (by omega) (by omega), w64 (by omega) (by omega), Int.toNat_natCast, show x % 256 % 256 = x % 256 from by omega]
theorem rbytes_end {k : Nat} {x : Int} {b : List Int} : examboardref49_bytes.l0 (k + 1) x b (-1) = some b := by
  simp only [examboardref49_bytes.l0]
  rw [if_neg (by decide)]
theorem u64_div {x : Int} (h : U64 x) : U64 (x / 256) := by obtain ⟨h0, h1⟩ := h; exact ⟨by omega, by omega⟩
theorem rbytes4 {k : Nat} {x : Int} (hx : U64 x) (hk : 9 ≤ k) : examboardref49_bytes.f k x 4 = some (b4 x) := by
  obtain ⟨k, rfl⟩ : ∃ m, k = m + 5 := ⟨k - 5, by omega⟩
  unfold examboardref49_bytes.f
  rw [if_pos (by decide), if_pos (by decide)]
  have h1 := u64_div hx
  have h2 := u64_div h1
  have h3 := u64_div h2
  have e1 := rbytes_step (k := k + 4) (i := 3) (b := [0, 0, 0, 0]) hx (by decide) (by decide)
  have e2 := rbytes_step (k := k + 3) (i := 2) (b := [0, 0, 0, x % 256]) h1 (by simp) (by simp)
  have e3 := rbytes_step (k := k + 2) (i := 1) (b := [0, 0, x / 256 % 256, x % 256]) h2 (by simp) (by simp)
  have e4 := rbytes_step (k := k + 1) (i := 0) (b := [0, x / 256 / 256 % 256, x / 256 % 256, x % 256]) h3 (by simp) (by simp)
  rw [show wrap64 (4 - 1) = ((3 : Nat) : Int) from by unfold wrap64; decide, show List.replicate (Int.toNat 4) 0 = ([0, 0, 0, 0] : List Int) from rfl]
  refine e1.trans ((show _ = _ from e2).trans ((show _ = _ from e3).trans ((show _ = _ from e4).trans (rbytes_end.trans ?_))))
  simp only [List.set_cons_zero, Option.some.injEq, b4, List.cons.injEq, and_true]
  rw [show (2 : Int) ^ 24 = 16777216 from by decide, show (2 : Int) ^ 16 = 65536 from by decide, show (2 : Int) ^ 8 = 256 from by decide]
  omega
theorem rbytes8 {k : Nat} {x : Int} (hx : U64 x) (hk : 9 ≤ k) : examboardref49_bytes.f k x 8 = some (be8 x) := by
  obtain ⟨k, rfl⟩ : ∃ m, k = m + 9 := ⟨k - 9, by omega⟩
  unfold examboardref49_bytes.f
  rw [if_pos (by decide), if_pos (by decide)]
  have h1 := u64_div hx
  have h2 := u64_div h1
  have h3 := u64_div h2
  have h4 := u64_div h3
  have h5 := u64_div h4
  have h6 := u64_div h5
  have h7 := u64_div h6
  have e1 := rbytes_step (k := k + 8) (i := 7) (b := [0, 0, 0, 0, 0, 0, 0, 0]) hx (by decide) (by decide)
  have e2 := rbytes_step (k := k + 7) (i := 6) (b := [0, 0, 0, 0, 0, 0, 0, x % 256]) h1 (by simp) (by simp)
  have e3 := rbytes_step (k := k + 6) (i := 5) (b := [0, 0, 0, 0, 0, 0, x / 256 % 256, x % 256]) h2 (by simp) (by simp)
  have e4 := rbytes_step (k := k + 5) (i := 4) (b := [0, 0, 0, 0, 0, x / 256 / 256 % 256, x / 256 % 256, x % 256]) h3 (by simp) (by simp)
  have e5 := rbytes_step (k := k + 4) (i := 3) (b := [0, 0, 0, 0, x / 256 / 256 / 256 % 256, x / 256 / 256 % 256, x / 256 % 256, x % 256]) h4 (by simp) (by simp)
  have e6 := rbytes_step (k := k + 3) (i := 2) (b := [0, 0, 0, x / 256 / 256 / 256 / 256 % 256, x / 256 / 256 / 256 % 256, x / 256 / 256 % 256, x / 256 % 256, x % 256]) h5 (by simp) (by simp)
  have e7 := rbytes_step (k := k + 2) (i := 1) (b := [0, 0, x / 256 / 256 / 256 / 256 / 256 % 256, x / 256 / 256 / 256 / 256 % 256, x / 256 / 256 / 256 % 256, x / 256 / 256 % 256, x / 256 % 256, x % 256]) h6 (by simp) (by simp)
  have e8 := rbytes_step (k := k + 1) (i := 0) (b := [0, x / 256 / 256 / 256 / 256 / 256 / 256 % 256, x / 256 / 256 / 256 / 256 / 256 % 256, x / 256 / 256 / 256 / 256 % 256, x / 256 / 256 / 256 % 256, x / 256 / 256 % 256, x / 256 % 256, x % 256]) h7 (by simp) (by simp)
  rw [show wrap64 (8 - 1) = ((7 : Nat) : Int) from by unfold wrap64; decide, show List.replicate (Int.toNat 8) 0 = ([0, 0, 0, 0, 0, 0, 0, 0] : List Int) from rfl]
  refine e1.trans ((show _ = _ from e2).trans ((show _ = _ from e3).trans ((show _ = _ from e4).trans ((show _ = _ from e5).trans ((show _ = _ from e6).trans ((show _ = _ from e7).trans ((show _ = _ from e8).trans (rbytes_end.trans ?_))))))))
  simp only [List.set_cons_zero, Option.some.injEq, be8, List.cons.injEq, and_true]
  rw [show (2 : Int) ^ 56 = 72057594037927936 from by decide, show (2 : Int) ^ 48 = 281474976710656 from by decide, show (2 : Int) ^ 40 = 1099511627776 from by decide, show (2 : Int) ^ 32 = 4294967296 from by decide, show (2 : Int) ^ 24 = 16777216 from by decide, show (2 : Int) ^ 16 = 65536 from by decide, show (2 : Int) ^ 8 = 256 from by decide]
  obtain ⟨x0, x1⟩ := hx
  refine ⟨?_, ?_, ?_, ?_, ?_, ?_⟩ <;> omega
theorem rExtends_l0 {a b : List Int} (hl : b.length ≤ a.length) (ha : a.length < 9223372036854775808) : ∀ (m i k : Nat), i + m = b.length → m < k →
    examboardref49_Extends.l0 k a b (b.length : Int) (i : Int) = some (decide ((a.take b.length).drop i = b.drop i)) := by
  intro m
  induction m with
  | zero =>
    intro i k hi hk
    obtain ⟨k, rfl⟩ : ∃ m, k = m + 1 := ⟨k - 1, by omega⟩
    simp only [examboardref49_Extends.l0]
    rw [if_neg (by omega), List.drop_of_length_le (by rw [List.length_take]; omega), List.drop_of_length_le (by omega)]
    rfl
  | succ m ih =>
    intro i k hi hk
    obtain ⟨k, rfl⟩ : ∃ m, k = m + 1 := ⟨k - 1, by omega⟩
    have hi1 : i < b.length := by omega
    have hi2 : i < (a.take b.length).length := by rw [List.length_take]; omega
    simp only [examboardref49_Extends.l0]
    rw [if_pos (by omega), if_pos (by omega), if_pos (by omega), if_pos (by omega), rdI b i hi1, rdI a i (by omega), dropI (a.take b.length) i hi2, dropI b i hi1, w64 (by omega) (by omega)]
    have eg : (a.take b.length)[i] = a[i]'(by omega) := by rw [List.getElem_take]
    by_cases h : a[i]'(by omega) = b[i]
    · rw [if_pos h]
      have e := ih (i + 1) k (by omega) (by omega)
      rw [show ((i : Int) + 1) = ((i + 1 : Nat) : Int) from by omega, e]
      congr 1
      refine decide_eq_decide.2 ?_
      rw [eg, h, List.cons.injEq]
      exact ⟨fun h => ⟨rfl, h⟩, fun h => h.2⟩
    · rw [if_neg h, decide_eq_false (by rw [eg]; intro e; exact h (List.cons.inj e).1)]
theorem rExtends_is {a b : List Int} {k : Nat} (ha : a.length < 9223372036854775808) (hk : b.length < k) : examboardref49_Extends.f k a b = some (decide (a.take b.length = b)) := by
  unfold examboardref49_Extends.f
  by_cases h : (b.length : Int) > (a.length : Int)
  · rw [if_pos h, decide_eq_false (by intro e; have := congrArg List.length e; rw [List.length_take] at this; omega)]
  · rw [if_neg h]
    have e := rExtends_l0 (a := a) (b := b) (by omega) ha b.length 0 k (by omega) hk
    rw [List.drop_zero, List.drop_zero] at e
    exact e

end Go.Proofs.YteeggfnailpcpaaDoor.Jou

