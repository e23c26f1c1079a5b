/- Hexadecimal notation in plain Lean: that digest.Hex, digest.Parse and the reference's write and read the same; that each inverts the other. -/
import Derived.Test.YtmjedihfibdhfaaAwk
namespace Go.Proofs.Ytmjedihfibdhfaa.Dig
open Go.RowKit Go.Proofs.Ytmjedihfibdhfaa.Q Go.Proofs.YtmjedihfibdhfaaW.PrintWords Go.Proofs.YtmjedihfibdhfaaW.PrintLast Go.Proofs.YtmjedihfibdhfaaW.PrintMore

/-- a string's bytes, as numbers -/
def bs (s : ByteArray) : List Int := s.data.toList.map fun c => (c.toNat : Int)
theorem bs_length (s : ByteArray) : (bs s).length = s.size := by unfold bs; rw [List.length_map, Array.length_toList]; rfl
theorem bs_bytes (s : ByteArray) : Bytes (bs s) := by
  intro x hx
  unfold bs at hx
  obtain ⟨c, _, rfl⟩ := List.mem_map.1 hx
  have := c.toNat_lt
  omega
theorem bs_inj {s t : ByteArray} (h : bs s = bs t) : s = t := by
  apply WideShapes.bytes_inj
  unfold bs at h
  have inj : ∀ a b : List UInt8, a.map (fun c => (c.toNat : Int)) = b.map (fun c => (c.toNat : Int)) → a = b := by
    intro a
    induction a with
    | nil => intro b h; cases b with | nil => rfl | cons _ _ => simp at h
    | cons x a ih =>
      intro b h
      cases b with
      | nil => simp at h
      | cons y b =>
        simp only [List.map_cons, List.cons.injEq] at h
        rw [ih b h.2, show x = y from UInt8.toNat_inj.1 (by omega)]
  exact inj _ _ h
theorem bs_append (s t : ByteArray) : bs (s ++ t) = bs s ++ bs t := by unfold bs; simp
theorem bt_at_drop (s : ByteArray) (i : Nat) (h : i < s.size) : (bs s).drop i = bt s (i : Int) :: (bs s).drop (i + 1) := by
  have hl : i < (bs s).length := by rw [bs_length]; exact h
  rw [List.drop_eq_getElem_cons hl]
  congr 1
  have e : (bs s)[i] = ((s.data.toList[i]'(by rw [Array.length_toList]; exact h)).toNat : Int) := by simp only [bs, List.getElem_map]
  rw [e]
  unfold bt
  rw [dif_pos (by simpa using h)]
  rfl
theorem bs_strOfNums {l : List Int} (h : Bytes l) : bs (strOfNums l) = l := by
  unfold bs strOfNums
  simp only [List.map_map]
  refine (List.map_congr_left (g := id) fun x hx => ?_).trans (List.map_id l)
  have := h x hx
  simp only [Function.comp, UInt8.toNat_ofNat', id]
  omega
theorem toList_eq_iff {s t : ByteArray} : s.toList = t.toList ↔ s = t := by
  rw [Go.ByteArray.toList_eq, Go.ByteArray.toList_eq]
  exact ⟨WideShapes.bytes_inj, fun h => by rw [h]⟩

/-- the value of a digit's sign; a digit's sign -/
def hx (c : Int) : Option Int := if 48 ≤ c ∧ c ≤ 57 then some (c - 48) else if 97 ≤ c ∧ c ≤ 102 then some (c - 87) else none
def dg (d : Int) : Int := if d < 10 then 48 + d else 87 + d
theorem hx_dg {d : Int} (h0 : 0 ≤ d) (h : d < 16) : hx (dg d) = some d := by
  unfold dg hx
  by_cases h1 : d < 10
  · rw [if_pos h1, if_pos (by omega)]; congr 1; omega
  · rw [if_neg h1, if_neg (by omega), if_pos (by omega)]; congr 1; omega
theorem dg_hx {c d : Int} (h : hx c = some d) : dg d = c ∧ 0 ≤ d ∧ d < 16 := by
  unfold hx at h
  unfold dg
  split at h
  · cases h; rw [if_pos (by omega)]; omega
  · split at h
    · cases h; rw [if_neg (by omega)]; omega
    · cases h
theorem dg_byte {d : Int} (h0 : 0 ≤ d) (h : d < 16) : 0 ≤ dg d ∧ dg d < 256 := by unfold dg; split <;> omega
def step (h d : Int) : Int := (h * 16) % 18446744073709551616 + d
def parseL : Int → List Int → Option Int
  | h, [] => some h
  | h, c :: r => match hx c with
    | none => none
    | some d => parseL (step h d) r
theorem parseL_snoc (cs : List Int) (c : Int) : ∀ h, parseL h (cs ++ [c]) = (parseL h cs).bind fun v => (hx c).map (step v) := by
  induction cs with
  | nil => intro h; simp only [List.nil_append, parseL, Option.bind_some]; cases hx c <;> rfl
  | cons x cs ih => intro h; simp only [List.cons_append, parseL]; cases hx x with | none => rfl | some d => exact ih _
def hexN : Nat → Int → List Int
  | 0, _ => []
  | n + 1, y => hexN n (y / 16) ++ [dg (y % 16)]
theorem hexN_length : ∀ (n : Nat) (y : Int), (hexN n y).length = n
  | 0, _ => rfl
  | n + 1, y => by simp [hexN, hexN_length n]
theorem hexN_bytes : ∀ (n : Nat) (y : Int), Bytes (hexN n y)
  | 0, _ => fun x hx => by simp [hexN] at hx
  | n + 1, y => fun x hx => by
    simp only [hexN, List.mem_append, List.mem_singleton] at hx
    rcases hx with hx | rfl
    · exact hexN_bytes n _ x hx
    · exact dg_byte (by omega) (by omega)
theorem pow_le (n : Nat) (h : n ≤ 16) : (16 : Int) ^ n ≤ 18446744073709551616 := by
  have h1 : (16 : Nat) ^ n ≤ 18446744073709551616 := Nat.le_trans (Nat.pow_le_pow_right (by decide) h) (by decide)
  have h2 : (((16 : Nat) ^ n : Nat) : Int) ≤ ((18446744073709551616 : Nat) : Int) := Int.ofNat_le.2 h1
  rw [Int.natCast_pow] at h2
  exact h2
theorem parse_hexN : ∀ (n : Nat) (y : Int), n ≤ 16 → 0 ≤ y → y < 16 ^ n → parseL 0 (hexN n y) = some y
  | 0, y, _, h0, h => by
    have : y = 0 := by simp at h; omega
    subst this; rfl
  | n + 1, y, hn, h0, h => by
    have e : (16 : Int) ^ (n + 1) = 16 ^ n * 16 := Int.pow_succ _ _
    have hp := pow_le n (by omega)
    have hp1 := pow_le (n + 1) hn
    rw [hexN, parseL_snoc, parse_hexN n (y / 16) (by omega) (by omega) (by omega), hx_dg (by omega) (by omega)]
    simp only [Option.bind_some, Option.map_some, step]
    congr 1
    omega
theorem hexN_parse : ∀ (n : Nat) (cs : List Int) (y : Int), n ≤ 16 → cs.length = n → parseL 0 cs = some y → hexN n y = cs ∧ 0 ≤ y ∧ y < 16 ^ n
  | 0, cs, y, _, hl, h => by
    obtain rfl := List.eq_nil_of_length_eq_zero hl
    simp only [parseL, Option.some.injEq] at h
    subst h
    simp [hexN]
  | n + 1, cs, y, hn, hl, h => by
    have hne : cs ≠ [] := by intro e; subst e; simp at hl
    have e := List.dropLast_concat_getLast hne
    generalize cs.getLast hne = c at e
    generalize hds : cs.dropLast = ds at e
    have hdl : ds.length = n := by rw [← hds, List.length_dropLast, hl]; rfl
    rw [← e] at h ⊢
    rw [parseL_snoc] at h
    obtain ⟨v, hv, h⟩ := Option.bind_eq_some_iff.1 h
    obtain ⟨d, hd, h⟩ := Option.map_eq_some_iff.1 h
    obtain ⟨h1, h2, h3⟩ := hexN_parse n ds v (by omega) hdl hv
    obtain ⟨g1, g2, g3⟩ := dg_hx hd
    have e2 : (16 : Int) ^ (n + 1) = 16 ^ n * 16 := Int.pow_succ _ _
    have hp1 := pow_le (n + 1) hn
    have hy : y = v * 16 + d := by rw [← h]; unfold step; omega
    subst hy
    refine ⟨?_, by omega, by omega⟩
    rw [hexN, show (v * 16 + d) / 16 = v from by omega, show (v * 16 + d) % 16 = d from by omega, h1, g1]
theorem parseL_u64 {cs : List Int} {y : Int} (hl : cs.length = 16) (h : parseL 0 cs = some y) : U64 y := by
  have := (hexN_parse 16 cs y (by omega) hl h).2
  unfold U64
  simpa using this

/-! ### Parse -/
theorem or_low (a d : Int) (h0 : 0 ≤ d) (h : d < 16) : Go.bits .or .u64 (IntKind.u64.wrap (a * 16)) d = step a d := by
  rw [wrapU (a * 16)]
  unfold Go.bits step
  have e : (BitVec.ofInt IntKind.u64.bits (a * 16 % 18446744073709551616) ||| BitVec.ofInt IntKind.u64.bits d).toNat = (a * 16 % 18446744073709551616).toNat + d.toNat := by
    rw [BitVec.toNat_or]
    show (BitVec.ofInt 64 _).toNat ||| (BitVec.ofInt 64 d).toNat = _
    have e1 : (BitVec.ofInt 64 (a * 16 % 18446744073709551616)).toNat = 2 ^ 4 * ((a % 1152921504606846976).toNat) := by
      simp only [BitVec.toNat_ofInt]; omega
    have e2 : (BitVec.ofInt 64 d).toNat = d.toNat := by simp only [BitVec.toNat_ofInt]; omega
    rw [e1, e2, ← Nat.two_pow_add_eq_or_of_lt (by omega)]
    omega
  simp only [e]
  rw [wrapU]
  omega
theorem Parse_l0 (s : ByteArray) (hs : s.size = 16) : ∀ (d k i : Nat) (h : Int), i + d = 16 →
    digest_Parse.l0 (k + 2 * d + 1) s h (i : Int) = some (match parseL h ((bs s).drop i) with | none => (0, 2) | some y => (y, 0)) := by
  intro d
  induction d with
  | zero =>
    intro k i h hd
    simp only [digest_Parse.l0]
    rw [if_neg (by omega), List.drop_of_length_le (by rw [bs_length]; omega)]
    rfl
  | succ d ih =>
    intro k i h hd
    have hb := bt_range s (i : Int)
    obtain ⟨m, hm⟩ : ∃ m, m = k + 2 * d + 1 := ⟨_, rfl⟩
    have ih' := fun i h => ih k i h
    rw [← hm] at ih'
    rw [show k + 2 * (d + 1) + 1 = m + 1 + 1 from by omega, bt_at_drop s i (by omega)]
    simp only [digest_Parse.l0, digest_Parse.j1]
    rw [if_pos (by omega), if_pos (by omega), w64 (by omega) (by omega)]
    have e1 : ((i : Int) + 1) = ((i + 1 : Nat) : Int) := by omega
    generalize bt s (i : Int) = c at hb ⊢
    simp only [parseL]
    by_cases h1 : c ≥ 48
    · rw [if_pos h1]
      by_cases h2 : c ≤ 57
      · rw [if_pos (decide_eq_true h2), Int.emod_eq_of_lt (by omega) (by omega), or_low _ _ (by omega) (by omega), e1, ih' (i + 1) _ (by omega)]
        rw [show hx c = some (c - 48) from if_pos ⟨h1, h2⟩]
      · rw [if_neg (by simpa using h2)]
        by_cases h3 : c ≥ 97
        · rw [if_pos h3]
          by_cases h4 : c ≤ 102
          · rw [if_pos h4, show ((c - 97) % 256 + 10) % 256 = c - 87 from by omega, or_low _ _ (by omega) (by omega), e1, ih' (i + 1) _ (by omega)]
            rw [show hx c = some (c - 87) from by unfold hx; rw [if_neg (by omega), if_pos ⟨h3, h4⟩]]
          · rw [if_neg h4, show hx c = none from by unfold hx; rw [if_neg (by omega), if_neg (by omega)]]
        · rw [if_neg h3, show hx c = none from by unfold hx; rw [if_neg (by omega), if_neg (by omega)]]
    · rw [if_neg h1, if_neg (by decide), if_neg (by omega), show hx c = none from by unfold hx; rw [if_neg (by omega), if_neg (by omega)]]
def parseS (s : ByteArray) : Int × Int := if s.size = 16 then (match parseL 0 (bs s) with | none => (0, 2) | some y => (y, 0)) else (0, 2)
theorem Parse_is {k : Nat} {s : ByteArray} (hk : 40 ≤ k) : digest_Parse.f k s = some (parseS s) := by
  unfold digest_Parse.f parseS
  by_cases hs : s.size = 16
  · obtain ⟨k, rfl⟩ : ∃ m, k = m + 2 * 16 + 1 := ⟨k - 33, by omega⟩
    rw [if_pos (by omega), if_pos hs]
    exact Parse_l0 s hs 16 k 0 0 (by omega)
  · rw [if_neg (by omega), if_neg hs]
theorem ref_Parse_l0 (s : ByteArray) (hs : s.size = 16) : ∀ (d k i : Nat) (h : Int), i + d = 16 →
    examboardref11_Parse.l0 (k + 2 * d + 1) s h (i : Int) = some (match parseL h ((bs s).drop i) with | none => (0, 2) | some y => (y, 0)) := by
  intro d
  induction d with
  | zero =>
    intro k i h hd
    simp only [examboardref11_Parse.l0]
    rw [if_neg (by omega), List.drop_of_length_le (by rw [bs_length]; omega)]
    rfl
  | succ d ih =>
    intro k i h hd
    have hb := bt_range s (i : Int)
    obtain ⟨m, hm⟩ : ∃ m, m = k + 2 * d + 1 := ⟨_, rfl⟩
    have ih' := fun i h => ih k i h
    rw [← hm] at ih'
    rw [show k + 2 * (d + 1) + 1 = m + 1 + 1 from by omega, bt_at_drop s i (by omega)]
    simp only [examboardref11_Parse.l0, examboardref11_Parse.j1]
    rw [if_pos (by omega), if_pos (by omega), if_pos (by omega), w64 (by omega) (by omega)]
    have e1 : ((i : Int) + 1) = ((i + 1 : Nat) : Int) := by omega
    generalize bt s (i : Int) = c at hb ⊢
    simp only [parseL]
    by_cases h1 : c ≥ 48
    · rw [if_pos h1]
      by_cases h2 : c ≤ 57
      · rw [if_pos (decide_eq_true h2), show IntKind.u64.wrap (IntKind.u64.wrap (h * 16) + (c - 48) % 256) = step h (c - 48) from by rw [wrapU, wrapU]; unfold step; omega, e1, ih' (i + 1) _ (by omega)]
        rw [show hx c = some (c - 48) from if_pos ⟨h1, h2⟩]
      · rw [if_neg (by simpa using h2)]
        by_cases h3 : c ≥ 97
        · rw [if_pos h3]
          by_cases h4 : c ≤ 102
          · rw [if_pos h4, show IntKind.u64.wrap (IntKind.u64.wrap (IntKind.u64.wrap (h * 16) + (c - 97) % 256) + 10) = step h (c - 87) from by rw [wrapU, wrapU, wrapU]; unfold step; omega, e1, ih' (i + 1) _ (by omega)]
            rw [show hx c = some (c - 87) from by unfold hx; rw [if_neg (by omega), if_pos ⟨h3, h4⟩]]
          · rw [if_neg h4, show hx c = none from by unfold hx; rw [if_neg (by omega), if_neg (by omega)]]
        · rw [if_neg h3, show hx c = none from by unfold hx; rw [if_neg (by omega), if_neg (by omega)]]
    · rw [if_neg h1, if_neg (by decide), if_neg (by omega), show hx c = none from by unfold hx; rw [if_neg (by omega), if_neg (by omega)]]
theorem ref_Parse_is {k : Nat} {s : ByteArray} (hk : 40 ≤ k) : examboardref11_Parse.f k s = some (parseS s) := by
  unfold examboardref11_Parse.f parseS
  by_cases hs : s.size = 16
  · obtain ⟨k, rfl⟩ : ∃ m, k = m + 2 * 16 + 1 := ⟨k - 33, by omega⟩
    rw [if_pos (by omega), if_pos hs]
    exact ref_Parse_l0 s hs 16 k 0 0 (by omega)
  · rw [if_neg (by omega), if_neg hs]

/-! ### Hex -/
theorem and15 (n : Int) (h : 0 ≤ n) : Go.bits .and .u64 n 15 = n % 16 := by
  unfold Go.bits
  have e : (BitVec.ofInt IntKind.u64.bits n &&& BitVec.ofInt IntKind.u64.bits 15).toNat = n.toNat % 16 := by
    rw [BitVec.toNat_and]
    show (BitVec.ofInt 64 n).toNat &&& (BitVec.ofInt 64 15).toNat = _
    rw [show (BitVec.ofInt 64 15).toNat = 2 ^ 4 - 1 from by decide, Nat.and_two_pow_sub_one_eq_mod]
    simp only [BitVec.toNat_ofInt]
    omega
  simp only [e]
  rw [wrapU]
  omega
def digits : ByteArray := ⟨#[48, 49, 50, 51, 52, 53, 54, 55, 56, 57, 97, 98, 99, 100, 101, 102]⟩
theorem digits_at : ∀ d : Fin 16, bt digits (d.val : Int) = dg d.val := by decide
theorem digits_cut : ∀ d : Fin 16, (digits.extract d.val (d.val + 1)).data.toList = [UInt8.ofNat (dg d.val).toNat] := by decide
theorem bt_digits {d : Int} (h0 : 0 ≤ d) (h : d < 16) : bt digits d = dg d := by
  obtain ⟨n, rfl⟩ := Int.eq_ofNat_of_zero_le h0
  exact digits_at ⟨n, by omega⟩
theorem cut_digits {d : Int} (h0 : 0 ≤ d) (h : d < 16) : bs (digits.extract d.toNat (d + 1).toNat) = [dg d] := by
  obtain ⟨n, rfl⟩ := Int.eq_ofNat_of_zero_le h0
  have e := digits_cut ⟨n, by omega⟩
  have hb := dg_byte h0 h
  rw [show ((n : Int) + 1).toNat = n + 1 from by omega, Int.toNat_natCast]
  unfold bs
  rw [e]
  simp only [List.map_cons, List.map_nil, UInt8.toNat_ofNat']
  congr 1
  omega
def nib (h : Int) (i : Nat) : Int := h / 2 ^ (60 - 4 * i) % 16
theorem nib_range (h : Int) (i : Nat) : 0 ≤ nib h i ∧ nib h i < 16 := by unfold nib; omega
theorem Hex_round (k : Nat) (h : Int) (hh : U64 h) (l : List Int) (hl : l.length = 16) (i : Nat) (hi : i < 16) :
    digest_Hex.l0 (k + 1) h l 16 (i : Int) = digest_Hex.l0 k h (l.set i (dg (nib h i))) 16 ((i + 1 : Nat) : Int) := by
  simp only [digest_Hex.l0]
  have e1 : wrap64 (4 * (i : Int)) = 4 * (i : Int) := w64 (by omega) (by omega)
  have e2 : IntKind.u64.wrap (wrap64 (60 - 4 * (i : Int))) = ((60 - 4 * i : Nat) : Int) := by rw [w64 (by omega) (by omega), wrapU_id (by unfold U64; omega)]; omega
  have e3 : Go.bits .and .u64 (shr .u64 h ((60 - 4 * i : Nat) : Int)) 15 = nib h i := by
    rw [shrU _ _ (by omega), and15 _ (Int.ediv_nonneg hh.1 (Int.pow_nonneg (by decide)))]; rfl
  have hn := nib_range h i
  rw [e1, e2, e3, if_pos (by omega), if_pos (by omega), if_pos (by omega), if_pos (by omega), if_pos (by omega), if_pos (by omega), w64 (by omega) (by omega), Int.toNat_natCast]
  have e4 : bt (⟨#[48, 49, 50, 51, 52, 53, 54, 55, 56, 57, 97, 98, 99, 100, 101, 102]⟩ : ByteArray) (nib h i) = dg (nib h i) := bt_digits hn.1 hn.2
  rw [e4]
  rfl
theorem set_take (l : List Int) (i : Nat) (x : Int) (hi : i < l.length) : (l.set i x).take (i + 1) = l.take i ++ [x] := by
  rw [List.take_succ_eq_append_getElem (by rw [List.length_set]; exact hi), List.getElem_set_self, List.take_set_of_le (Nat.le_refl i)]
theorem Hex_l0 (h : Int) (hh : U64 h) : ∀ (d k i : Nat) (l : List Int), i + d = 16 → l.length = 16 →
    ∃ m : List Int, digest_Hex.l0 (k + d + 1) h l 16 (i : Int) = some (strOfNums m) ∧ m = l.take i ++ (List.range' i d).map fun j => dg (nib h j) := by
  intro d
  induction d with
  | zero =>
    intro k i l hd hl
    simp only [digest_Hex.l0]
    rw [if_neg (by omega)]
    exact ⟨l, rfl, by rw [List.take_of_length_le (by omega)]; simp⟩
  | succ d ih =>
    intro k i l hd hl
    rw [show k + (d + 1) + 1 = k + d + 1 + 1 from rfl, Hex_round _ h hh l hl i (by omega)]
    obtain ⟨m, h1, h2⟩ := ih k (i + 1) (l.set i (dg (nib h i))) (by omega) (by rw [List.length_set]; exact hl)
    refine ⟨m, h1, ?_⟩
    rw [h2, set_take _ _ _ (by omega), List.range'_succ]
    simp
def hexS (h : Int) : ByteArray := strOfNums (hexN 16 h)
theorem hexN_nib (h : Int) : hexN 16 h = (List.range' 0 16).map fun j => dg (nib h j) := by
  have e : ∀ (n : Nat), n ≤ 16 → ∀ y : Int, hexN n y = (List.range' 0 n).map fun j => dg (y / 2 ^ (4 * (n - 1 - j)) % 16) := by
    intro n
    induction n with
    | zero => intro _ y; rfl
    | succ n ih =>
      intro hn y
      rw [hexN, ih (by omega), List.range'_concat, List.map_append]
      congr 1
      · refine List.map_congr_left fun j hj => ?_
        have hj := List.mem_range'_1.1 hj
        rw [show 4 * (n + 1 - 1 - j) = 4 + 4 * (n - 1 - j) from by omega, Int.pow_add, ← Int.ediv_ediv_of_nonneg (by decide)]
        rfl
      · simp
  rw [e 16 (Nat.le_refl _)]
  refine List.map_congr_left fun j hj => ?_
  have hj := List.mem_range'_1.1 hj
  unfold nib
  rw [show 4 * (16 - 1 - j) = 60 - 4 * j from by omega]
theorem Hex_is {k : Nat} {h : Int} (hh : U64 h) (hk : 20 ≤ k) : digest_Hex.f k h = some (hexS h) := by
  obtain ⟨k, rfl⟩ : ∃ m, k = m + 16 + 1 := ⟨k - 17, by omega⟩
  unfold digest_Hex.f
  rw [if_pos (by decide)]
  simp only [Option.bind_some, List.length_replicate]
  obtain ⟨m, h1, h2⟩ := Hex_l0 h hh 16 k 0 (List.replicate 16 0) (by omega) (by simp)
  have h1' : digest_Hex.l0 (k + 16 + 1) h (List.replicate 16 0) ((16 : Nat) : Int) 0 = some (strOfNums m) := h1
  rw [h1', h2]
  unfold hexS
  rw [hexN_nib]
  rfl
theorem ref_Hex_round (k : Nat) (h : Int) (hh : U64 h) (s : ByteArray) (hs : s.size ≤ 20) (i : Nat) (hi : i < 16) :
    ∃ t : ByteArray, examboardref11_Hex.l0 (k + 1) h s (i : Int) = examboardref11_Hex.l0 k h t ((i : Int) - 1) ∧ bs t = bs s ++ [dg (h / 2 ^ (4 * i) % 16)] := by
  simp only [examboardref11_Hex.l0]
  have e1 : IntKind.u64.wrap (4 * IntKind.u64.wrap (i : Int)) = ((4 * i : Nat) : Int) := by rw [wrapU_id (show U64 (i : Int) by unfold U64; omega), wrapU_id (by unfold U64; omega)]; omega
  have e3 : Go.bits .and .u64 (shr .u64 h ((4 * i : Nat) : Int)) 15 = h / 2 ^ (4 * i) % 16 := by
    rw [shrU _ _ (by omega), and15 _ (Int.ediv_nonneg hh.1 (Int.pow_nonneg (by decide)))]
  have hn : 0 ≤ h / 2 ^ (4 * i) % 16 ∧ h / 2 ^ (4 * i) % 16 < 16 := by omega
  rw [e1, e3]
  generalize h / 2 ^ (4 * i) % 16 = d at hn ⊢
  have e5 : IntKind.u64.wrap (d + 1) = d + 1 := wrapU_id (by unfold U64; omega)
  rw [e5]
  have hc := cut_digits hn.1 hn.2
  have hsz : ((⟨#[48, 49, 50, 51, 52, 53, 54, 55, 56, 57, 97, 98, 99, 100, 101, 102]⟩ : ByteArray).extract d.toNat (d + 1).toNat).size = 1 := by
    rw [← bs_length]; exact congrArg List.length hc
  rw [if_pos (by omega), if_pos (by omega), if_pos (by omega), if_pos (by omega), if_pos (by omega), if_pos (by rw [hsz]; omega), w64 (by omega) (by omega)]
  exact ⟨_, rfl, by rw [bs_append]; congr 1⟩
theorem ref_Hex_l0 (h : Int) (hh : U64 h) : ∀ (i k : Nat) (s : ByteArray), i ≤ 16 → s.size + i = 16 →
    ∃ t : ByteArray, examboardref11_Hex.l0 (k + i + 1) h s ((i : Int) - 1) = some t ∧ bs t = bs s ++ (List.range' (16 - i) i).map fun j => dg (nib h j) := by
  intro i
  induction i with
  | zero =>
    intro k s _ _
    simp only [examboardref11_Hex.l0]
    rw [if_neg (by omega)]
    exact ⟨s, rfl, by simp⟩
  | succ i ih =>
    intro k s hi hs
    rw [show k + (i + 1) + 1 = k + i + 1 + 1 from rfl, show (((i + 1 : Nat) : Int) - 1) = (i : Int) from by omega]
    obtain ⟨t, h1, h2⟩ := ref_Hex_round (k + i + 1) h hh s (by omega) i (by omega)
    have ht : t.size = s.size + 1 := by rw [← bs_length, h2, List.length_append, bs_length]; rfl
    obtain ⟨u, h3, h4⟩ := ih k t (by omega) (by omega)
    refine ⟨u, by rw [h1, h3], ?_⟩
    rw [h4, h2, List.append_assoc, List.range'_succ, List.map_cons, show 16 - (i + 1) + 1 = 16 - i from by omega]
    unfold nib
    rw [show 60 - 4 * (16 - (i + 1)) = 4 * i from by omega]
    rfl
theorem ref_Hex_is {k : Nat} {h : Int} (hh : U64 h) (hk : 20 ≤ k) : examboardref11_Hex.f k h = some (hexS h) := by
  obtain ⟨k, rfl⟩ : ∃ m, k = m + 16 + 1 := ⟨k - 17, by omega⟩
  obtain ⟨t, h1, h2⟩ := ref_Hex_l0 h hh 16 k (⟨#[]⟩ : ByteArray) (by omega) rfl
  unfold examboardref11_Hex.f
  have h1' : examboardref11_Hex.l0 (k + 16 + 1) h (⟨#[]⟩ : ByteArray) 15 = some t := h1
  rw [h1']
  congr 1
  apply bs_inj
  rw [h2]
  unfold hexS
  rw [bs_strOfNums (hexN_bytes _ _), hexN_nib]
  rfl
theorem hexS_size (h : Int) : (hexS h).size = 16 := by rw [← bs_length]; unfold hexS; rw [bs_strOfNums (hexN_bytes _ _), hexN_length]
theorem parse_hexS {h : Int} (hh : U64 h) : parseS (hexS h) = (h, 0) := by
  unfold parseS
  rw [if_pos (hexS_size h)]
  unfold hexS
  rw [bs_strOfNums (hexN_bytes _ _), parse_hexN 16 h (Nat.le_refl _) hh.1 (by have := hh.2; simpa using this)]
theorem hexS_parse {s : ByteArray} (h : (parseS s).2 = 0) : hexS (parseS s).1 = s ∧ U64 (parseS s).1 := by
  unfold parseS at *
  by_cases hs : s.size = 16
  · rw [if_pos hs] at *
    cases hp : parseL 0 (bs s) with
    | none => rw [hp] at h; simp at h
    | some y =>
      have := hexN_parse 16 (bs s) y (Nat.le_refl _) (by rw [bs_length, hs]) hp
      refine ⟨bs_inj ?_, ?_⟩
      · show bs (hexS y) = bs s
        unfold hexS
        rw [bs_strOfNums (hexN_bytes _ _), this.1]
      · exact parseL_u64 (by rw [bs_length, hs]) hp
  · rw [if_neg hs] at h; simp at h
end Go.Proofs.Ytmjedihfibdhfaa.Dig
