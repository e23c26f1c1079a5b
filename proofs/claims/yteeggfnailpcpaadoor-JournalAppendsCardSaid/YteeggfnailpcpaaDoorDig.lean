/- Words of the kit's printer that this claim uses, cut to these by wip/trim.py. -/
import Derived.Test.YteeggfnailpcpaaDoorQx1
namespace Go.Proofs.YteeggfnailpcpaaDoor.Dig
open Go.RowKit Go.Proofs.YteeggfnailpcpaaDoor.Q Go.Proofs.YteeggfnailpcpaaDoorW.PrintWords Go.Proofs.YteeggfnailpcpaaDoorW.PrintLast Go.Proofs.YteeggfnailpcpaaDoorW.PrintMore

def E (H c : BitVec 64) : BitVec 64 := (H ^^^ c) * 1099511628211#64
def bv (x : Int) : BitVec 64 := BitVec.ofInt 64 x
def iv (H : BitVec 64) : Int := (H.toNat : Int)
def addB (H : BitVec 64) (l : List Int) : BitVec 64 := l.foldl (fun H c => E H (bv c)) H
def start : BitVec 64 := 14695981039346656037#64
/-- the eight bytes of a number, the most significant one first -/
def be8 (n : Int) : List Int := [n / 2 ^ 56 % 256, n / 2 ^ 48 % 256, n / 2 ^ 40 % 256, n / 2 ^ 32 % 256, n / 2 ^ 24 % 256, n / 2 ^ 16 % 256, n / 2 ^ 8 % 256, n % 256]
def U64 (x : Int) : Prop := 0 ≤ x ∧ x < 18446744073709551616
def Bytes (l : List Int) : Prop := ∀ x ∈ l, 0 ≤ x ∧ x < 256

theorem wrapU (n : Int) : IntKind.u64.wrap n = n % 18446744073709551616 := by
  simp [IntKind.wrap, IntKind.bits, IntKind.signed]
theorem wrapU_id {n : Int} (h : U64 n) : IntKind.u64.wrap n = n := by
  rw [wrapU]; exact Int.emod_eq_of_lt h.1 h.2
theorem iv_u64 (H : BitVec 64) : U64 (iv H) := by
  have := H.isLt
  unfold iv U64
  omega
theorem bv_iv (H : BitVec 64) : bv (iv H) = H := by
  apply BitVec.eq_of_toNat_eq
  have := H.isLt
  unfold bv iv
  simp only [BitVec.toNat_ofInt]
  omega
theorem iv_bv {x : Int} (h : U64 x) : iv (bv x) = x := by
  unfold bv iv U64 at *
  simp only [BitVec.toNat_ofInt]
  omega
theorem bv_wrap (c : Int) : bv (IntKind.u64.wrap c) = bv c := by
  apply BitVec.eq_of_toNat_eq
  rw [wrapU]
  unfold bv
  simp only [BitVec.toNat_ofInt]
  omega
theorem bits_xor (x y : Int) : Go.bits .xor .u64 x y = iv (bv x ^^^ bv y) := by
  unfold Go.bits
  exact wrapU_id (iv_u64 _)
theorem iv_mul (A B : BitVec 64) : iv (A * B) = (iv A * iv B) % 18446744073709551616 := by
  unfold iv
  rw [BitVec.toNat_mul]
  omega
theorem ext_is (x c : Int) : IntKind.u64.wrap ((Go.bits .xor .u64 x c) * 1099511628211) = iv (E (bv x) (bv c)) := by
  rw [bits_xor, wrapU]
  unfold E
  rw [iv_mul]
  rfl

theorem addB_nil (H : BitVec 64) : addB H [] = H := rfl
theorem addB_cons (H : BitVec 64) (c : Int) (l : List Int) : addB H (c :: l) = addB (E H (bv c)) l := rfl
theorem addB_append (H : BitVec 64) (a b : List Int) : addB H (a ++ b) = addB (addB H a) b := by unfold addB; rw [List.foldl_append]

theorem w64 {i : Int} (h0 : -9223372036854775808 ≤ i) (h : i < 9223372036854775808) : wrap64 i = i := by unfold wrap64; omega
theorem rd_at (l : List Int) (i : Nat) (h : i < l.length) : rd l (i : Int) = l[i] := by unfold rd; simp [h]
theorem drop_at (l : List Int) (i : Nat) (h : i < l.length) : l.drop i = rd l (i : Int) :: l.drop (i + 1) := by rw [rd_at l i h]; exact List.drop_eq_getElem_cons h

theorem Add_l0 (l : List Int) (hl : l.length < 4611686018427387904) : ∀ (d k i : Nat) (H : BitVec 64), i + d = l.length → d < k →
    digest_Add.l0 k (iv H) l (l.length : Int) (i : Int) = some (iv (addB H (l.drop i))) := by
  intro d
  induction d with
  | zero =>
    intro k i H hd hk
    obtain ⟨k, rfl⟩ : ∃ m, k = m + 1 := ⟨k - 1, by omega⟩
    simp only [digest_Add.l0]
    rw [if_neg (by omega), List.drop_of_length_le (by omega), addB_nil]
  | succ d ih =>
    intro k i H hd hk
    obtain ⟨k, rfl⟩ : ∃ m, k = m + 1 := ⟨k - 1, by omega⟩
    simp only [digest_Add.l0]
    rw [if_pos (by omega), if_pos (by omega), if_pos (by omega), ext_is, bv_wrap, bv_iv, w64 (by omega) (by omega)]
    have h := ih k (i + 1) (E H (bv (rd l (i : Int)))) (by omega) (by omega)
    rw [drop_at l i (by omega), addB_cons]
    exact_mod_cast h
theorem Add_is {k : Nat} {h : Int} {l : List Int} (hh : U64 h) (hl : l.length < 4611686018427387904) (hk : l.length < k) :
    digest_Add.f k h l = some (iv (addB (bv h) l)) := by
  have e := Add_l0 l hl l.length k 0 (bv h) (by omega) hk
  rw [iv_bv hh] at e
  exact e

theorem and255 (n : Int) (h : 0 ≤ n) : Go.bits .and .u64 n 255 = n % 256 := by
  unfold Go.bits
  have e : (BitVec.ofInt IntKind.u64.bits n &&& BitVec.ofInt IntKind.u64.bits 255).toNat = n.toNat % 256 := by
    rw [BitVec.toNat_and]
    show (BitVec.ofInt 64 n).toNat &&& (BitVec.ofInt 64 255).toNat = _
    rw [show (BitVec.ofInt 64 255).toNat = 2 ^ 8 - 1 from by decide, Nat.and_two_pow_sub_one_eq_mod]
    simp only [BitVec.toNat_ofInt]
    omega
  simp only [e]
  rw [wrapU]
  omega
theorem shrU (n : Int) (s : Nat) (hs : s ≤ 64) : shr .u64 n (s : Int) = n / 2 ^ s := by
  unfold shr
  rw [show min (s : Int).toNat IntKind.u64.bits = s from by simp [IntKind.bits]; omega]
theorem Number_round (k : Nat) (H : BitVec 64) (n : Int) (hn : U64 n) (s : Nat) (hs : s ≤ 56) :
    digest_Number.l0 (k + 1) (iv H) n (s : Int) = digest_Number.l0 k (iv (E H (bv (n / 2 ^ s % 256)))) n ((s : Int) - 8) := by
  simp only [digest_Number.l0]
  have e : IntKind.u64.wrap (s : Int) = (s : Int) := wrapU_id (by unfold U64; omega)
  rw [if_pos (by omega), if_pos (by rw [e]; omega), e, shrU n s (by omega), and255 _ (Int.ediv_nonneg hn.1 (by exact Int.pow_nonneg (by decide))), ext_is, bv_iv, w64 (by omega) (by omega)]
theorem Number_is {k : Nat} {h n : Int} (hh : U64 h) (hn : U64 n) (hk : 9 ≤ k) : digest_Number.f k h n = some (iv (addB (bv h) (be8 n))) := by
  obtain ⟨k, rfl⟩ : ∃ m, k = m + 9 := ⟨k - 9, by omega⟩
  unfold digest_Number.f
  have e := iv_bv hh
  have r := fun (k s : Nat) (H : BitVec 64) (hs : s ≤ 56) => Number_round k H n hn s hs
  have r0 := r (k + 8) 56 (bv h) (by omega); have r1 := fun H => r (k + 7) 48 H (by omega); have r2 := fun H => r (k + 6) 40 H (by omega); have r3 := fun H => r (k + 5) 32 H (by omega)
  have r4 := fun H => r (k + 4) 24 H (by omega); have r5 := fun H => r (k + 3) 16 H (by omega); have r6 := fun H => r (k + 2) 8 H (by omega); have r7 := fun H => r (k + 1) 0 H (by omega)
  simp only [Int.cast_ofNat_Int, e] at r0 r1 r2 r3 r4 r5 r6 r7
  simp only [Int.reduceSub] at r0 r1 r2 r3 r4 r5 r6 r7
  rw [r0, r1, r2, r3, r4, r5, r6, r7]
  simp only [digest_Number.l0]
  rw [if_neg (by omega)]
  simp only [be8, addB, List.foldl, Int.pow_zero, Int.ediv_one]
theorem start_u64 : U64 14695981039346656037 := by unfold U64; decide
theorem bv_start : bv 14695981039346656037 = start := by decide
theorem Chain_is {k : Nat} {h : Int} {l : List Int} (hh : U64 h) (hl : l.length < 4611686018427387904) (hk : l.length < k) (hk9 : 9 ≤ k) :
    digest_Chain.f k h l = some (iv (addB start (be8 h ++ l))) := by
  unfold digest_Chain.f
  rw [Number_is start_u64 hh hk9, Option.bind_some, Add_is (iv_u64 _) hl hk, Option.bind_some, bv_iv, bv_start, addB_append]
/-- the eight bytes tell the number -/
theorem be8_bytes (n : Int) : Bytes (be8 n) := by
  intro x hx
  simp only [be8, List.mem_cons, List.not_mem_nil, or_false] at hx
  rcases hx with h | h | h | h | h | h | h | h <;> subst h <;> omega
theorem be8_length (n : Int) : (be8 n).length = 8 := rfl
theorem bound {α β : Type} {g : Option α} {a : α} {f : α → Option β} (hg : g = some a) : g.bind f = f a := by subst hg; rfl
end Go.Proofs.YteeggfnailpcpaaDoor.Dig

