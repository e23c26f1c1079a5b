/- The cipher in plain Lean: the keystream, sealing and opening as plain functions; that the program's and the reference's printed functions compute them. -/
import Derived.Test.YtcohkopbgfnlbaaDig
namespace Go.Proofs.Ytcohkopbgfnlbaa.Cip
open Go.RowKit Go.Proofs.Ytcohkopbgfnlbaa.Q Go.Proofs.YtcohkopbgfnlbaaW.PrintWords Go.Proofs.YtcohkopbgfnlbaaW.PrintLast Go.Proofs.YtcohkopbgfnlbaaW.PrintMore Go.Proofs.Ytcohkopbgfnlbaa.Dig

/-! ### bytes, combined -/
def xb (x y : Int) : Int := Go.bits .xor .u8 x y
theorem wrap8 (n : Int) : IntKind.u8.wrap n = n % 256 := by simp [IntKind.wrap, IntKind.bits, IntKind.signed]
theorem xb_nat {x y : Int} (hx : 0 ≤ x ∧ x < 256) (hy : 0 ≤ y ∧ y < 256) : xb x y = ((x.toNat ^^^ y.toNat : Nat) : Int) := by
  unfold xb Go.bits
  have e : (BitVec.ofInt IntKind.u8.bits x ^^^ BitVec.ofInt IntKind.u8.bits y).toNat = x.toNat ^^^ y.toNat := by
    rw [BitVec.toNat_xor]
    show (BitVec.ofInt 8 x).toNat ^^^ (BitVec.ofInt 8 y).toNat = _
    rw [show (BitVec.ofInt 8 x).toNat = x.toNat from by simp only [BitVec.toNat_ofInt]; omega, show (BitVec.ofInt 8 y).toNat = y.toNat from by simp only [BitVec.toNat_ofInt]; omega]
  simp only [e]
  rw [wrap8]
  have : x.toNat ^^^ y.toNat < 2 ^ 8 := Nat.xor_lt_two_pow (by omega) (by omega)
  omega
theorem xb_range {x y : Int} (hx : 0 ≤ x ∧ x < 256) (hy : 0 ≤ y ∧ y < 256) : 0 ≤ xb x y ∧ xb x y < 256 := by
  rw [xb_nat hx hy]
  have : x.toNat ^^^ y.toNat < 2 ^ 8 := Nat.xor_lt_two_pow (by omega) (by omega)
  omega
theorem xb_twice {x y : Int} (hx : 0 ≤ x ∧ x < 256) (hy : 0 ≤ y ∧ y < 256) : xb (xb x y) y = x := by
  rw [xb_nat (xb_range hx hy) hy, xb_nat hx hy, Int.toNat_natCast, Nat.xor_assoc, Nat.xor_self, Nat.xor_zero]
  omega
theorem xb_both {x y k : Int} (hx : 0 ≤ x ∧ x < 256) (hy : 0 ≤ y ∧ y < 256) (hk : 0 ≤ k ∧ k < 256) : xb (xb x k) (xb y k) = xb x y := by
  rw [xb_nat (xb_range hx hk) (xb_range hy hk), xb_nat hx hk, xb_nat hy hk, xb_nat hx hy, Int.toNat_natCast, Int.toNat_natCast]
  congr 1
  rw [Nat.xor_assoc, Nat.xor_comm k.toNat, Nat.xor_assoc, Nat.xor_self, Nat.xor_zero]
theorem xb_ne {x c : Int} (hx : 0 ≤ x ∧ x < 256) (hc : 0 ≤ c ∧ c < 256) (h : c ≠ 0) : xb x c ≠ x := by
  intro e
  rw [xb_nat hx hc] at e
  have e2 : x.toNat ^^^ c.toNat = x.toNat := by omega
  have e3 : x.toNat ^^^ (x.toNat ^^^ c.toNat) = x.toNat ^^^ x.toNat := by rw [e2]
  rw [← Nat.xor_assoc, Nat.xor_self, Nat.zero_xor] at e3
  omega

/-! ### the eight bytes of a number, made and read -/
theorem number_round (k : Nat) (n : Int) (l : List Int) (hl : l.length = 8) (i : Nat) (hi : i < 8) :
    cipher_number.l0 (k + 1) n l 8 (i : Int) = cipher_number.l0 k n (l.set i (n / 2 ^ (56 - 8 * i) % 256)) 8 ((i + 1 : Nat) : Int) := by
  simp only [cipher_number.l0]
  have e1 : wrap64 (8 * (i : Int)) = 8 * (i : Int) := w64 (by omega) (by omega)
  have e2 : wrap64 (56 - 8 * (i : Int)) = ((56 - 8 * i : Nat) : Int) := by rw [w64 (by omega) (by omega)]; omega
  rw [e1, e2, if_pos (by omega), if_pos (by omega), if_pos (by omega), if_pos (by omega), shrU _ _ (by omega), w64 (by omega) (by omega), Int.toNat_natCast]
  rfl
theorem number_is {k : Nat} {n : Int} (hk : 9 ≤ k) : cipher_number.f k n = some (be8 n) := by
  obtain ⟨k, rfl⟩ : ∃ m, k = m + 9 := ⟨k - 9, by omega⟩
  unfold cipher_number.f
  rw [if_pos (by decide)]
  simp only [Option.bind_some, List.length_replicate]
  have r := fun (k : Nat) (l : List Int) (hl : l.length = 8) (i : Nat) (hi : i < 8) => number_round k n l hl i hi
  show cipher_number.l0 (k + 9) n (List.replicate 8 0) 8 ((0 : Nat) : Int) = _
  rw [r (k + 8) _ (by simp) 0 (by omega), r (k + 7) _ (by simp) 1 (by omega), r (k + 6) _ (by simp) 2 (by omega), r (k + 5) _ (by simp) 3 (by omega),
    r (k + 4) _ (by simp) 4 (by omega), r (k + 3) _ (by simp) 5 (by omega), r (k + 2) _ (by simp) 6 (by omega), r (k + 1) _ (by simp) 7 (by omega)]
  simp only [cipher_number.l0]
  rw [if_neg (by omega)]
  simp [be8, List.replicate]
theorem eight_round (k : Nat) (n : Int) (hn : U64 n) (l : List Int) (hl : l.length = 8) (i : Nat) (hi : i < 8) :
    examboardref12_eight.l0 (k + 1) n l (i : Int) = examboardref12_eight.l0 k (n / 256) (l.set i (n % 256)) ((i : Int) - 1) := by
  simp only [examboardref12_eight.l0]
  have e1 : Int.tdiv n 256 = n / 256 := Int.tdiv_eq_ediv_of_nonneg hn.1
  have e2 : Int.tmod n 256 = n % 256 := Int.tmod_eq_emod_of_nonneg hn.1
  have e3 : IntKind.u64.wrap (n / 256) = n / 256 := wrapU_id (by have := hn.1; have := hn.2; unfold U64; omega)
  rw [e1, e2, e3, if_pos (by omega), if_pos (by omega), if_pos (by omega), w64 (by omega) (by omega), Int.toNat_natCast, Int.emod_emod_of_dvd _ (Int.dvd_refl _)]
theorem u64_div {n : Int} (h : U64 n) : U64 (n / 256) := by have := h.1; have := h.2; unfold U64; omega
theorem eight_is {k : Nat} {n : Int} (hn : U64 n) (hk : 9 ≤ k) : examboardref12_eight.f k n = some (be8 n) := by
  obtain ⟨k, rfl⟩ : ∃ m, k = m + 9 := ⟨k - 9, by omega⟩
  unfold examboardref12_eight.f
  rw [if_pos (by decide)]
  have r := fun (k : Nat) (n : Int) (hn : U64 n) (l : List Int) (hl : l.length = 8) (i : Nat) (hi : i < 8) => eight_round k n hn l hl i hi
  show examboardref12_eight.l0 (k + 9) n (List.replicate 8 0) ((7 : Nat) : Int) = _
  have u1 := u64_div hn; have u2 := u64_div u1; have u3 := u64_div u2; have u4 := u64_div u3; have u5 := u64_div u4; have u6 := u64_div u5; have u7 := u64_div u6
  rw [r (k + 8) n hn _ (by simp) 7 (by omega)]
  have q := fun (k : Nat) (n : Int) (hn : U64 n) (l : List Int) (hl : l.length = 8) (i : Nat) (hi : i < 8) (j : Int) (hj : j = (i : Int)) => (show examboardref12_eight.l0 (k + 1) n l j = examboardref12_eight.l0 k (n / 256) (l.set i (n % 256)) ((i : Int) - 1) by rw [hj]; exact r k n hn l hl i hi)
  rw [q (k + 7) _ u1 _ (by simp) 6 (by omega) _ (by omega), q (k + 6) _ u2 _ (by simp) 5 (by omega) _ (by omega), q (k + 5) _ u3 _ (by simp) 4 (by omega) _ (by omega), q (k + 4) _ u4 _ (by simp) 3 (by omega) _ (by omega),
    q (k + 3) _ u5 _ (by simp) 2 (by omega) _ (by omega), q (k + 2) _ u6 _ (by simp) 1 (by omega) _ (by omega), q (k + 1) _ u7 _ (by simp) 0 (by omega) _ (by omega)]
  simp only [examboardref12_eight.l0]
  rw [if_neg (by omega)]
  simp [be8, List.replicate]
  omega

def stp8 (n c : Int) : Int := (n * 256) % 18446744073709551616 + c
def rdL (n : Int) (l : List Int) : Int := l.foldl stp8 n
theorem or_byte (a c : Int) (h0 : 0 ≤ c) (h : c < 256) : Go.bits .or .u64 (IntKind.u64.wrap (a * 256)) c = stp8 a c := by
  rw [wrapU (a * 256)]
  unfold Go.bits stp8
  have e : (BitVec.ofInt IntKind.u64.bits (a * 256 % 18446744073709551616) ||| BitVec.ofInt IntKind.u64.bits c).toNat = (a * 256 % 18446744073709551616).toNat + c.toNat := by
    rw [BitVec.toNat_or]
    show (BitVec.ofInt 64 _).toNat ||| (BitVec.ofInt 64 c).toNat = _
    have e1 : (BitVec.ofInt 64 (a * 256 % 18446744073709551616)).toNat = 2 ^ 8 * ((a % 72057594037927936).toNat) := by
      simp only [BitVec.toNat_ofInt]; omega
    have e2 : (BitVec.ofInt 64 c).toNat = c.toNat := by simp only [BitVec.toNat_ofInt]; omega
    rw [e1, e2, ← Nat.two_pow_add_eq_or_of_lt (by omega)]
    omega
  simp only [e]
  rw [wrapU]
  omega
theorem rd_byte {l : List Int} (h : Bytes l) (i : Nat) (hi : i < l.length) : 0 ≤ rd l (i : Int) ∧ rd l (i : Int) < 256 := by
  rw [rd_at l i hi]; exact h _ (List.getElem_mem hi)
theorem read_l0 (l : List Int) (hb : Bytes l) (hl : l.length < 4611686018427387904) : ∀ (d k i : Nat) (n : Int), i + d = l.length → d < k →
    cipher_read.l0 k n l (l.length : Int) (i : Int) = some (rdL n (l.drop i)) := by
  intro d
  induction d with
  | zero =>
    intro k i n hd hk
    obtain ⟨k, rfl⟩ : ∃ m, k = m + 1 := ⟨k - 1, by omega⟩
    simp only [cipher_read.l0]
    rw [if_neg (by omega), List.drop_of_length_le (by omega)]
    rfl
  | succ d ih =>
    intro k i n hd hk
    obtain ⟨k, rfl⟩ : ∃ m, k = m + 1 := ⟨k - 1, by omega⟩
    simp only [cipher_read.l0]
    have hr := rd_byte hb i (by omega)
    rw [if_pos (by omega), if_pos (by omega), if_pos (by omega), wrapU_id (show U64 (rd l (i : Int)) by unfold U64; omega), or_byte _ _ hr.1 hr.2, w64 (by omega) (by omega)]
    have h := ih k (i + 1) (stp8 n (rd l (i : Int))) (by omega) (by omega)
    rw [drop_at l i (by omega)]
    exact_mod_cast h
theorem read_is {k : Nat} {l : List Int} (hb : Bytes l) (hl : l.length < 4611686018427387904) (hk : l.length < k) : cipher_read.f k l = some (rdL 0 l) :=
  read_l0 l hb hl l.length k 0 0 (by omega) hk
theorem ref_number_l0 (l : List Int) (hb : Bytes l) (hl : l.length = 8) : ∀ (d k i : Nat) (n : Int), i + d = 8 → d < k →
    examboardref12_number.l0 k l n (i : Int) = some (rdL n (l.drop i)) := by
  intro d
  induction d with
  | zero =>
    intro k i n hd hk
    obtain ⟨k, rfl⟩ : ∃ m, k = m + 1 := ⟨k - 1, by omega⟩
    simp only [examboardref12_number.l0]
    rw [if_neg (by omega), List.drop_of_length_le (by omega)]
    rfl
  | succ d ih =>
    intro k i n hd hk
    obtain ⟨k, rfl⟩ : ∃ m, k = m + 1 := ⟨k - 1, by omega⟩
    simp only [examboardref12_number.l0]
    have hr := rd_byte hb i (by omega)
    rw [if_pos (by omega), if_pos (by omega), if_pos (by omega), wrapU_id (show U64 (rd l (i : Int)) by unfold U64; omega),
      show IntKind.u64.wrap (IntKind.u64.wrap (n * 256) + rd l (i : Int)) = stp8 n (rd l (i : Int)) from by rw [wrapU, wrapU]; unfold stp8; omega, w64 (by omega) (by omega)]
    have h := ih k (i + 1) (stp8 n (rd l (i : Int))) (by omega) (by omega)
    rw [drop_at l i (by omega)]
    exact_mod_cast h
theorem ref_number_is {k : Nat} {l : List Int} (hb : Bytes l) (hl : l.length = 8) (hk : 9 ≤ k) : examboardref12_number.f k l = some (rdL 0 l) :=
  ref_number_l0 l hb hl 8 k 0 0 (by omega) (by omega)
theorem rdL_be8 {n : Int} (h : U64 n) : rdL 0 (be8 n) = n := by
  unfold U64 at h
  simp only [rdL, be8, List.foldl, stp8, Int.reducePow]
  omega
theorem be8_rdL {l : List Int} (hb : Bytes l) (hl : l.length = 8) : be8 (rdL 0 l) = l ∧ U64 (rdL 0 l) := by
  match l, hl with
  | [a, b, c, d, e, f, g, h], _ =>
    have ha := hb a (by simp); have hb' := hb b (by simp); have hc := hb c (by simp); have hd := hb d (by simp)
    have he := hb e (by simp); have hf := hb f (by simp); have hg := hb g (by simp); have hh := hb h (by simp)
    have ev : rdL 0 [a, b, c, d, e, f, g, h] = a * 72057594037927936 + b * 281474976710656 + c * 1099511627776 + d * 4294967296 + e * 16777216 + f * 65536 + g * 256 + h := by
      simp only [rdL, List.foldl, stp8]
      omega
    rw [ev]
    clear hb ev
    constructor
    · simp only [be8, Int.reducePow, List.cons.injEq, and_true]
      refine ⟨?_, ?_, ?_, ?_, ?_, ?_, ?_, ?_⟩ <;> omega
    · unfold U64; omega

/-! ### the keystream -/
def stp (s : Int) : Int := IntKind.u64.wrap ((IntKind.u64.wrap (s * 6364136223846793005)) + 1442695040888963407)
def st : Nat → Int → Int
  | 0, d => d
  | n + 1, d => stp (st n d)
def wd (d : Int) (n : Nat) : Int := (st n d / 4294967296) % 4294967296
def kb (d : Int) (j : Nat) : Int := wd d (j / 4 + 1) / 2 ^ (24 - 8 * (j % 4)) % 256
theorem kb_range (d : Int) (j : Nat) : 0 ≤ kb d j ∧ kb d j < 256 := by unfold kb; omega
def mixL (d : Int) (b : List Int) : List Int := (List.range' 0 b.length).map fun (j : Nat) => xb (rd b (j : Int)) (kb d j)
theorem mixL_length (d : Int) (b : List Int) : (mixL d b).length = b.length := by simp [mixL]
theorem mixL_at (d : Int) (b : List Int) (j : Nat) (hj : j < b.length) : rd (mixL d b) (j : Int) = xb (rd b (j : Int)) (kb d j) := by
  rw [rd_at _ _ (by rw [mixL_length]; exact hj)]
  simp [mixL]
theorem mixL_bytes (d : Int) {b : List Int} (h : Bytes b) : Bytes (mixL d b) := by
  intro x hx
  obtain ⟨j, hj, rfl⟩ := List.mem_map.1 hx
  have hj := List.mem_range'_1.1 hj
  exact xb_range (rd_byte h j (by omega)) (kb_range d j)
theorem list_of_rd (l : List Int) : l = (List.range' 0 l.length).map fun (j : Nat) => rd l (j : Int) := by
  apply List.ext_getElem
  · simp
  · intro i h1 h2
    simp only [List.getElem_map, List.getElem_range', Nat.zero_add, Nat.one_mul]
    rw [rd_at l i h1]
theorem mixL_twice (d : Int) {b : List Int} (h : Bytes b) : mixL d (mixL d b) = b := by
  conv => rhs; rw [list_of_rd b]
  unfold mixL
  rw [List.length_map, List.length_range']
  refine List.map_congr_left fun j hj => ?_
  have hj := List.mem_range'_1.1 hj
  have e := mixL_at d b j (by omega)
  unfold mixL at e
  rw [e]
  exact xb_twice (rd_byte h j (by omega)) (kb_range d j)
theorem shr32 (n : Int) (s : Nat) (hs : s ≤ 32) : shr .u32 n (s : Int) = n / 2 ^ s := by
  unfold shr
  rw [show min (s : Int).toNat IntKind.u32.bits = s from by simp [IntKind.bits]; omega]
theorem comb_l0 (b : List Int) (d0 : Int) (hl : b.length < 4611686018427387904) : ∀ (d k i : Nat) (out : List Int) (x : Int), i + d = b.length → d < k → out.length = b.length → (i % 4 ≠ 0 → x = wd d0 (i / 4 + 1)) →
    cipher_combined.l0 k b (st ((i + 3) / 4) d0) out x (b.length : Int) (i : Int) = some (out.take i ++ (List.range' i d).map fun (j : Nat) => xb (rd b (j : Int)) (kb d0 j)) := by
  intro d
  induction d with
  | zero =>
    intro k i out x hd hk ho _
    obtain ⟨k, rfl⟩ : ∃ m, k = m + 1 := ⟨k - 1, by omega⟩
    simp only [cipher_combined.l0]
    rw [if_neg (by omega), List.take_of_length_le (by omega)]
    simp
  | succ d ih =>
    intro k i out x hd hk ho hx
    obtain ⟨k, rfl⟩ : ∃ m, k = m + 1 := ⟨k - 1, by omega⟩
    simp only [cipher_combined.l0]
    have e1 : Int.tmod (i : Int) 4 = ((i % 4 : Nat) : Int) := by rw [Int.tmod_eq_emod_of_nonneg (by omega)]; omega
    have e2 : wrap64 (24 - wrap64 (8 * ((i % 4 : Nat) : Int))) = ((24 - 8 * (i % 4) : Nat) : Int) := by
      rw [w64 (i := 8 * ((i % 4 : Nat) : Int)) (by omega) (by omega), w64 (by omega) (by omega)]; omega
    have e3 : wrap64 ((i : Int) + 1) = ((i + 1 : Nat) : Int) := by rw [w64 (by omega) (by omega)]; omega
    have step : ∀ (y : Int), (out.set i y).take (i + 1) = out.take i ++ [y] := by
      intro y
      rw [List.take_succ_eq_append_getElem (by rw [List.length_set]; omega), List.getElem_set_self, List.take_set_of_le (Nat.le_refl i)]
    rw [e1, e2, e3, if_pos (by omega)]
    by_cases h4 : i % 4 = 0
    · rw [if_pos (by omega)]
      have ej : (i + 3) / 4 = i / 4 := by omega
      have en : draws_Next.f (st ((i + 3) / 4) d0) = some (wd d0 (i / 4 + 1), st (i / 4 + 1) d0) := by rw [ej]; rfl
      rw [en, Option.bind_some, if_pos (by omega), if_pos (by omega), if_pos (by omega), if_pos (by omega), shr32 _ _ (by omega), Int.toNat_natCast]
      have h := ih k (i + 1) (out.set i (xb (rd b (i : Int)) (kb d0 i))) (wd d0 (i / 4 + 1)) (by omega) (by omega) (by rw [List.length_set]; exact ho) (fun _ => by congr 1; omega)
      rw [show (i + 1 + 3) / 4 = i / 4 + 1 from by omega, step, List.append_assoc] at h
      rw [List.range'_succ, List.map_cons]
      exact h
    · rw [if_neg (by omega)]
      rw [if_pos (by omega), if_pos (by omega), if_pos (by omega), if_pos (by omega), shr32 _ _ (by omega), Int.toNat_natCast, hx h4]
      have h := ih k (i + 1) (out.set i (xb (rd b (i : Int)) (kb d0 i))) (wd d0 (i / 4 + 1)) (by omega) (by omega) (by rw [List.length_set]; exact ho) (fun _ => by congr 1; omega)
      rw [show (i + 1 + 3) / 4 = (i + 3) / 4 from by omega, step, List.append_assoc] at h
      rw [List.range'_succ, List.map_cons]
      exact h
/-- the first state of the keystream -/
def seed (key : Int) (nonce : List Int) : Int := stp (iv (addB Dig.start (be8 key ++ nonce)))
theorem combined_is {k : Nat} {key : Int} {nonce b : List Int} (hk : U64 key) (hn : nonce.length = 8) (hl : b.length < 281474976710656) (h : b.length + 20 ≤ k) :
    cipher_combined.f k key nonce b = some (mixL (seed key nonce) b) := by
  unfold cipher_combined.f
  rw [bound (Chain_is hk (by omega) (by omega) (by omega)), bound (show draws_New.f (iv (addB Dig.start (be8 key ++ nonce))) = some (seed key nonce) from rfl), if_pos (by omega), if_pos (by omega), Int.toNat_natCast]
  have e := comb_l0 b (seed key nonce) (by omega) b.length k 0 (List.replicate b.length 0) 0 (by omega) (by omega) (by simp) (fun h => absurd rfl h)
  simp only [List.take_zero, List.nil_append] at e
  exact e
theorem stream_l0 (d0 : Int) (n : Nat) (hn : n < 1073741824) : ∀ (d k m : Nat), n ≤ 4 * m + 4 * d → d < k →
    examboardref12_stream.l0 k (n : Int) (st m d0) ((List.range' 0 (4 * m)).map (kb d0)) = some ((List.range' 0 n).map (kb d0)) ∨ 4 * m ≥ n + 4 := by
  intro d
  induction d with
  | zero =>
    intro k m hd hk
    by_cases h4 : 4 * m ≥ n + 4
    · exact .inr h4
    refine .inl ?_
    obtain ⟨k, rfl⟩ : ∃ m, k = m + 1 := ⟨k - 1, by omega⟩
    simp only [examboardref12_stream.l0, List.length_map, List.length_range']
    rw [if_neg (by omega), if_pos (by omega), if_pos (by omega), Int.toNat_natCast, ← List.map_take, List.take_range'_of_length_ge (by omega)]
  | succ d ih =>
    intro k m hd hk
    by_cases h4 : 4 * m ≥ n + 4
    · exact .inr h4
    refine .inl ?_
    obtain ⟨k, rfl⟩ : ∃ m, k = m + 1 := ⟨k - 1, by omega⟩
    simp only [examboardref12_stream.l0, List.length_map, List.length_range']
    by_cases hlt : 4 * m < n
    · rw [if_pos (by omega)]
      have en : examboardref08_Next.f (st m d0) = some (wd d0 (m + 1), st (m + 1) d0) := rfl
      rw [en]
      simp only [Option.bind_some, List.length_cons, List.length_nil]
      rw [if_pos (by omega)]
      have h := ih k (m + 1) (by omega) (by omega)
      rcases h with h | h
      · have e : (List.range' 0 (4 * (m + 1))).map (kb d0) = (List.range' 0 (4 * m)).map (kb d0) ++ [wd d0 (m + 1) / 16777216 % 256, wd d0 (m + 1) / 65536 % 256, wd d0 (m + 1) / 256 % 256, wd d0 (m + 1) % 256] := by
          rw [show 4 * (m + 1) = 4 * m + 1 + 1 + 1 + 1 from by omega, List.range'_concat, List.range'_concat, List.range'_concat, List.range'_concat]
          simp only [List.map_append, List.append_assoc, List.map_cons, List.map_nil, List.cons_append, List.nil_append]
          congr 1
          have a0 : kb d0 (0 + 1 * (4 * m)) = wd d0 (m + 1) / 16777216 % 256 := by unfold kb; rw [show (0 + 1 * (4 * m)) / 4 + 1 = m + 1 from by omega, show 24 - 8 * ((0 + 1 * (4 * m)) % 4) = 24 from by omega]; rfl
          have a1 : kb d0 (0 + 1 * (4 * m + 1)) = wd d0 (m + 1) / 65536 % 256 := by unfold kb; rw [show (0 + 1 * (4 * m + 1)) / 4 + 1 = m + 1 from by omega, show 24 - 8 * ((0 + 1 * (4 * m + 1)) % 4) = 16 from by omega]; rfl
          have a2 : kb d0 (0 + 1 * (4 * m + 1 + 1)) = wd d0 (m + 1) / 256 % 256 := by unfold kb; rw [show (0 + 1 * (4 * m + 1 + 1)) / 4 + 1 = m + 1 from by omega, show 24 - 8 * ((0 + 1 * (4 * m + 1 + 1)) % 4) = 8 from by omega]; rfl
          have a3 : kb d0 (0 + 1 * (4 * m + 1 + 1 + 1)) = wd d0 (m + 1) % 256 := by unfold kb; rw [show (0 + 1 * (4 * m + 1 + 1 + 1)) / 4 + 1 = m + 1 from by omega, show 24 - 8 * ((0 + 1 * (4 * m + 1 + 1 + 1)) % 4) = 0 from by omega]; simp
          rw [a0, a1, a2, a3]
        rw [e] at h
        exact h
      · omega
    · rw [if_neg (by omega), if_pos (by omega), if_pos (by omega), Int.toNat_natCast, ← List.map_take, List.take_range'_of_length_ge (by omega)]
theorem stream_is {k : Nat} {key nonce : Int} {n : Nat} (hn : U64 nonce) (hl : n < 1073741824) (h : n + 20 ≤ k) :
    examboardref12_stream.f k key nonce (n : Int) = some ((List.range' 0 n).map (kb (seed key (be8 nonce)))) := by
  unfold examboardref12_stream.f
  rw [bound (eight_is hn (by omega)), bound (ref_Chain_is (by rw [be8_length]; omega) (by rw [be8_length]; omega) (by omega)), bound (show examboardref08_New.f (iv (addB Dig.start (be8 key ++ be8 nonce))) = some (seed key (be8 nonce)) from rfl)]
  have e := stream_l0 (seed key (be8 nonce)) n hl (n / 4 + 1) k 0 (by omega) (by omega)
  rcases e with e | e
  · exact e
  · omega
theorem mix_l0 (b ks : List Int) (hk : ks.length = b.length) (hl : b.length < 4611686018427387904) : ∀ (d k i : Nat) (out : List Int), i + d = b.length → d < k → out.length = b.length →
    examboardref12_mix.l0 k b ks out (i : Int) = some (out.take i ++ (List.range' i d).map fun (j : Nat) => xb (rd b (j : Int)) (rd ks (j : Int))) := by
  intro d
  induction d with
  | zero =>
    intro k i out hd hk ho
    obtain ⟨k, rfl⟩ : ∃ m, k = m + 1 := ⟨k - 1, by omega⟩
    simp only [examboardref12_mix.l0]
    rw [if_neg (by omega), List.take_of_length_le (by omega)]
    simp
  | succ d ih =>
    intro k i out hd hk ho
    obtain ⟨k, rfl⟩ : ∃ m, k = m + 1 := ⟨k - 1, by omega⟩
    simp only [examboardref12_mix.l0]
    have e3 : wrap64 ((i : Int) + 1) = ((i + 1 : Nat) : Int) := by rw [w64 (by omega) (by omega)]; omega
    rw [e3, if_pos (by omega), if_pos (by omega), if_pos (by omega), if_pos (by omega), Int.toNat_natCast]
    have h := ih k (i + 1) (out.set i (xb (rd b (i : Int)) (rd ks (i : Int)))) (by omega) (by omega) (by rw [List.length_set]; exact ho)
    rw [List.take_succ_eq_append_getElem (by rw [List.length_set]; omega), List.getElem_set_self, List.take_set_of_le (Nat.le_refl i), List.append_assoc] at h
    rw [List.range'_succ, List.map_cons]
    exact h
theorem mix_is {k : Nat} {key nonce : Int} {b : List Int} (hn : U64 nonce) (hl : b.length < 1073741824) (h : b.length + 20 ≤ k) :
    examboardref12_mix.f k key nonce b = some (mixL (seed key (be8 nonce)) b) := by
  unfold examboardref12_mix.f
  rw [bound (stream_is hn hl h), if_pos (by omega), if_pos (by omega), Int.toNat_natCast]
  have e := mix_l0 b ((List.range' 0 b.length).map (kb (seed key (be8 nonce)))) (by simp) (by omega) b.length k 0 (List.replicate b.length 0) (by omega) (by omega) (by simp)
  simp only [List.take_zero, List.nil_append] at e
  refine Eq.trans e ?_
  congr 1
  refine List.map_congr_left fun j hj => ?_
  have hj := List.mem_range'_1.1 hj
  congr 1
  rw [rd_at _ _ (by simp; omega)]
  simp

/-! ### sealing and opening -/
def body (key nonce : Int) (p : List Int) : List Int := be8 nonce ++ mixL (seed key (be8 nonce)) p
def tag (key : Int) (b : List Int) : Int := iv (addB Dig.start (be8 key ++ b))
theorem Chain_tag {k : Nat} {h : Int} {l : List Int} (hh : U64 h) (hl : l.length < 4611686018427387904) (hk : l.length < k) (hk9 : 9 ≤ k) : digest_Chain.f k h l = some (tag h l) := Chain_is hh hl hk hk9
theorem ref_Chain_tag {k : Nat} {h : Int} {l : List Int} (hl : l.length < 4611686018427387904) (hk : l.length < k) (hk9 : 9 ≤ k) : examboardref11_Chain.f k h l = some (tag h l) := ref_Chain_is hl hk hk9
def sealed (key nonce : Int) (p : List Int) : List Int := body key nonce p ++ be8 (tag key (body key nonce p))
theorem body_length (key nonce : Int) (p : List Int) : (body key nonce p).length = p.length + 8 := by unfold body; rw [List.length_append, mixL_length, be8_length]; omega
theorem sealed_length (key nonce : Int) (p : List Int) : (sealed key nonce p).length = p.length + 16 := by unfold sealed; rw [List.length_append, body_length, be8_length]
theorem tag_u64 (key : Int) (b : List Int) : U64 (tag key b) := iv_u64 _
theorem sealed_bytes (key nonce : Int) {p : List Int} (h : Bytes p) : Bytes (sealed key nonce p) := by
  intro x hx
  simp only [sealed, body, List.mem_append] at hx
  rcases hx with (hx | hx) | hx
  · exact be8_bytes _ x hx
  · exact mixL_bytes _ h x hx
  · exact be8_bytes _ x hx
theorem Seal_is {k : Nat} {key nonce : Int} {p : List Int} (hk : U64 key) (hl : p.length < 1073741824) (h : p.length + 40 ≤ k) :
    cipher_Seal.f k key nonce p = some (if p.length > 1048576 then ([], 5) else (sealed key nonce p, 0)) := by
  unfold cipher_Seal.f
  by_cases hp : p.length > 1048576
  · rw [if_pos (by omega), if_pos hp]
  · have hb := body_length key nonce p
    have hm := mixL_length (seed key (be8 nonce)) p
    rw [if_neg (by omega), if_neg hp, bound (number_is (by omega)), bound (number_is (by omega)), bound (combined_is hk (be8_length nonce) (by omega) (by omega)), be8_length, if_pos (by omega), Option.bind_some]
    rw [show be8 nonce ++ mixL (seed key (be8 nonce)) p = body key nonce p from rfl, bound (Chain_tag hk (by omega) (by omega) (by omega)), bound (number_is (by omega)), if_pos (by rw [be8_length]; omega)]
    rfl
theorem Seal_ok {k : Nat} {key nonce : Int} {p : List Int} (hk : U64 key) (hl : p.length ≤ 1048576) (h : p.length + 40 ≤ k) :
    cipher_Seal.f k key nonce p = some (sealed key nonce p, 0) := by rw [Seal_is hk (by omega) h, if_neg (by omega)]
theorem ref_Seal_is {k : Nat} {key nonce : Int} {p : List Int} (hn : U64 nonce) (hl : p.length < 1073741824) (h : p.length + 40 ≤ k) :
    examboardref12_Seal.f k key nonce p = some (if p.length > 1048576 then ([], 5) else (sealed key nonce p, 0)) := by
  unfold examboardref12_Seal.f
  by_cases hp : p.length > 1048576
  · rw [if_pos (by omega), if_pos hp]
  · have hb := body_length key nonce p
    have hm := mixL_length (seed key (be8 nonce)) p
    rw [if_neg (by omega), if_neg hp, bound (eight_is hn (by omega)), bound (mix_is hn (by omega) (by omega)), be8_length, if_pos (by omega), Option.bind_some]
    rw [show be8 nonce ++ mixL (seed key (be8 nonce)) p = body key nonce p from rfl, bound (ref_Chain_tag (by omega) (by omega) (by omega)), bound (eight_is (tag_u64 _ _) (by omega)), if_pos (by rw [be8_length]; omega)]
    rfl
def opened (key : Int) (s : List Int) : List Int × Int × Int :=
  if s.length < 16 then ([], 0, 4) else if s.length > 1048592 then ([], 0, 5) else
  if tag key (s.take (s.length - 8)) = rdL 0 (s.drop (s.length - 8)) then (mixL (seed key (s.take 8)) ((s.take (s.length - 8)).drop 8), rdL 0 (s.take 8), 0) else ([], 0, 12)
theorem bytes_take {l : List Int} (h : Bytes l) (n : Nat) : Bytes (l.take n) := fun x hx => h x (List.mem_of_mem_take hx)
theorem bytes_drop {l : List Int} (h : Bytes l) (n : Nat) : Bytes (l.drop n) := fun x hx => h x (List.mem_of_mem_drop hx)
theorem Open_is {k : Nat} {key : Int} {s : List Int} (hk : U64 key) (hb : Bytes s) (hl : s.length < 1073741824) (h : s.length + 40 ≤ k) :
    cipher_Open.f k key s = some (opened key s) := by
  unfold cipher_Open.f opened
  by_cases h1 : s.length < 16
  · rw [if_pos (by omega), if_pos h1]
  rw [if_neg (by omega), if_neg h1]
  by_cases h2 : s.length > 1048592
  · rw [if_pos (by omega), if_pos h2]
  rw [if_neg (by omega), if_neg h2, w64 (by omega) (by omega), if_pos (by omega), if_pos (by omega), show ((s.length : Int) - 8).toNat = s.length - 8 from by omega]
  have l1 : (s.take (s.length - 8)).length = s.length - 8 := by rw [List.length_take]; omega
  have l2 : (s.drop (s.length - 8)).length = 8 := by rw [List.length_drop]; omega
  have l3 : (s.take 8).length = 8 := by rw [List.length_take]; omega
  have l4 : ((s.take (s.length - 8)).drop 8).length = s.length - 16 := by rw [List.length_drop, l1]; omega
  rw [bound (Chain_tag hk (by omega) (by omega) (by omega)), bound (read_is (bytes_drop hb _) (by omega) (by omega))]
  by_cases h3 : tag key (s.take (s.length - 8)) = rdL 0 (s.drop (s.length - 8))
  · rw [if_pos h3, if_pos h3, if_pos (by omega), if_pos (by omega), bound (combined_is hk l3 (by omega) (by omega)), bound (read_is (bytes_take hb _) (by omega) (by omega))]
  · rw [if_neg h3, if_neg h3]
theorem ref_Open_is {k : Nat} {key : Int} {s : List Int} (hb : Bytes s) (hl : s.length < 1073741824) (h : s.length + 40 ≤ k) :
    examboardref12_Open.f k key s = some (opened key s) := by
  unfold examboardref12_Open.f opened
  by_cases h1 : s.length < 16
  · rw [if_pos (by omega), if_pos h1]
  rw [if_neg (by omega), if_neg h1]
  by_cases h2 : s.length > 1048592
  · rw [if_pos (by omega), if_pos h2]
  rw [if_neg (by omega), if_neg h2, w64 (by omega) (by omega), if_pos (by omega), if_pos (by omega), show ((s.length : Int) - 8).toNat = s.length - 8 from by omega]
  have l1 : (s.take (s.length - 8)).length = s.length - 8 := by rw [List.length_take]; omega
  have l2 : (s.drop (s.length - 8)).length = 8 := by rw [List.length_drop]; omega
  have l3 : (s.take 8).length = 8 := by rw [List.length_take]; omega
  have l4 : ((s.take (s.length - 8)).drop 8).length = s.length - 16 := by rw [List.length_drop, l1]; omega
  rw [bound (ref_Chain_tag (by omega) (by omega) (by omega)), bound (ref_number_is (bytes_drop hb _) l2 (by omega))]
  by_cases h3 : tag key (s.take (s.length - 8)) = rdL 0 (s.drop (s.length - 8))
  · have hr := be8_rdL (bytes_take hb 8) l3
    rw [if_pos h3, if_pos h3, if_pos (by omega), bound (ref_number_is (bytes_take hb _) l3 (by omega)), if_pos (by omega), bound (mix_is hr.2 (by omega) (by omega)), hr.1]
  · rw [if_neg h3, if_neg h3]
theorem same_l0 (a b : List Int) (hab : a = b) (hl : a.length < 4611686018427387904) : ∀ (d k i : Nat), i + d = a.length → d < k → examboardlaw12_same.l0 k a b (i : Int) = some true := by
  subst hab
  intro d
  induction d with
  | zero =>
    intro k i hd hk
    obtain ⟨k, rfl⟩ : ∃ m, k = m + 1 := ⟨k - 1, by omega⟩
    simp only [examboardlaw12_same.l0]
    rw [if_neg (by omega)]
  | succ d ih =>
    intro k i hd hk
    obtain ⟨k, rfl⟩ : ∃ m, k = m + 1 := ⟨k - 1, by omega⟩
    simp only [examboardlaw12_same.l0]
    rw [if_pos (by omega), if_pos (by omega), if_pos (by omega), w64 (by omega) (by omega)]
    have h := ih k (i + 1) (by omega) (by omega)
    rw [if_pos trivial]
    exact_mod_cast h
theorem same_is {k : Nat} (a : List Int) (hl : a.length < 4611686018427387904) (hk : a.length < k) : examboardlaw12_same.f k a a = some true := by
  unfold examboardlaw12_same.f
  rw [if_pos rfl]
  exact same_l0 a a rfl hl a.length k 0 (by omega) hk
end Go.Proofs.Ytcohkopbgfnlbaa.Cip
