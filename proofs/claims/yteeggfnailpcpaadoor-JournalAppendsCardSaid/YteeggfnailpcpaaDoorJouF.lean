/- Words of the kit's printer that this claim uses, cut to these by wip/trim.py. -/
import Derived.Test.YteeggfnailpcpaaDoorJou
import Derived.Test.YteeggfnailpcpaaDoorQx9
namespace Go.Proofs.YteeggfnailpcpaaDoor.Jou
open Go.RowKit Go.Proofs.YteeggfnailpcpaaDoor.Q Go.Proofs.YteeggfnailpcpaaDoorW.PrintWords Go.Proofs.YteeggfnailpcpaaDoorW.PrintLast Go.Proofs.YteeggfnailpcpaaDoorW.PrintMore
open Go.Proofs.YteeggfnailpcpaaDoor.Cod (Bytes pn enc Ok Wf Fit pn_enc pn_acc enc_bytes bytes_append w64 wU orU nul)
open Go.Proofs.YteeggfnailpcpaaDoor.Dig (be8 addB iv bv U64 be8_length be8_bytes addB_append iv_u64 bv_iv iv_bv shrU)

theorem rdI (l : List Int) (i : Nat) (h : i < l.length) : rd l (i : Int) = l[i] := by unfold rd; simp [h]
theorem dropI (l : List Int) (i : Nat) (h : i < l.length) : l.drop i = l[i] :: l.drop (i + 1) := List.drop_eq_getElem_cons h
theorem takeI (l : List Int) (i : Nat) (h : i < l.length) : l.take (i + 1) = l.take i ++ [l[i]] := by rw [List.take_add_one, List.getElem?_eq_getElem h]; rfl
theorem bytes_take {l : List Int} (h : Bytes l) (n : Nat) : Bytes (l.take n) := fun x hx => h x (List.mem_of_mem_take hx)
theorem bytes_drop {l : List Int} (h : Bytes l) (n : Nat) : Bytes (l.drop n) := fun x hx => h x (List.mem_of_mem_drop hx)
theorem pow256 {i : Nat} (h : i ≤ 7) : (256 : Int) ^ i ≤ 72057594037927936 := by
  match i, h with
  | 0, _ => decide
  | 1, _ => decide
  | 2, _ => decide
  | 3, _ => decide
  | 4, _ => decide
  | 5, _ => decide
  | 6, _ => decide
  | 7, _ => decide

theorem number_l0 {b : List Int} (hb : Bytes b) (hl : b.length ≤ 8) : ∀ (m i k : Nat), i + m = b.length → m < k → journal_number.l0 k (num (b.take i)) b (b.length : Int) (i : Int) = some (num b) := by
  intro m
  induction m with
  | zero =>
    intro i k hi hk
    obtain ⟨k, rfl⟩ : ∃ m, k = m + 1 := ⟨k - 1, by omega⟩
    simp only [journal_number.l0]
    rw [if_neg (by omega), List.take_of_length_le (by omega)]
  | succ m ih =>
    intro i k hi hk
    obtain ⟨k, rfl⟩ : ∃ m, k = m + 1 := ⟨k - 1, by omega⟩
    have hi1 : i < b.length := by omega
    have hn := num_bound i (b.take i) (by rw [List.length_take]; omega) (bytes_take hb i)
    have hp := pow256 (i := i) (by omega)
    have hc := hb _ (List.getElem_mem hi1)
    simp only [journal_number.l0]
    rw [if_pos (by omega), if_pos (by omega), if_pos (by omega), rdI b i hi1, wU (n := num (b.take i) * 256) (by omega) (by omega), wU (n := b[i]) (by omega) (by omega),
      orU (i := 8) (by decide) (by omega) (by rw [show (2 : Int) ^ 8 = 256 from by decide]; omega) (by omega) hc.1 (by rw [show (2 : Int) ^ 8 = 256 from by decide]; omega), w64 (by omega) (by omega), ← num_snoc, ← takeI b i hi1]
    have e := ih (i + 1) k (by omega) (by omega)
    exact_mod_cast e
theorem number_is {b : List Int} {k : Nat} (hb : Bytes b) (hl : b.length ≤ 8) (hk : 9 ≤ k) : journal_number.f k b = some (num b) := by
  have e := number_l0 hb hl b.length 0 k (by omega) (by omega)
  exact e

theorem big_step {k n i : Nat} {x : Int} {b : List Int} (hn : n ≤ 8) (hi : i < n) (hb : b.length = n) :
    journal_big.l0 (k + 1) x (n : Int) b (n : Int) (i : Int) = journal_big.l0 k x (n : Int) (b.set i (x / 2 ^ (8 * (n - 1 - i)) % 256)) (n : Int) ((i + 1 : Nat) : Int) := by
  simp only [journal_big.l0]
  rw [if_pos (by omega), w64 (i := (n : Int) - 1) (by omega) (by omega), w64 (i := (n : Int) - 1 - (i : Int)) (by omega) (by omega), w64 (i := 8 * ((n : Int) - 1 - (i : Int))) (by omega) (by omega), if_pos (by omega), if_pos (by omega), if_pos (by omega),
    show 8 * ((n : Int) - 1 - (i : Int)) = ((8 * (n - 1 - i) : Nat) : Int) from by omega, shrU x _ (by omega), w64 (by omega) (by omega), Int.toNat_natCast, show ((i : Int) + 1) = ((i + 1 : Nat) : Int) from by omega]
theorem big_end {k n : Nat} {x : Int} {b : List Int} : journal_big.l0 (k + 1) x (n : Int) b (n : Int) (n : Int) = some b := by
  simp only [journal_big.l0]
  rw [if_neg (by omega)]
theorem big4 {k : Nat} {x : Int} (hk : 9 ≤ k) : journal_big.f k x 4 = some (b4 x) := by
  obtain ⟨k, rfl⟩ : ∃ m, k = m + 5 := ⟨k - 5, by omega⟩
  unfold journal_big.f
  rw [if_pos (by decide), if_pos (by decide), Option.bind_some]
  have e1 := big_step (x := x) (k := k + 4) (n := 4) (i := 0) (b := [0, 0, 0, 0]) (by decide) (by decide) rfl
  have e2 := fun b h => big_step (x := x) (k := k + 3) (n := 4) (i := 1) (b := b) (by decide) (by decide) h
  have e3 := fun b h => big_step (x := x) (k := k + 2) (n := 4) (i := 2) (b := b) (by decide) (by decide) h
  have e4 := fun b h => big_step (x := x) (k := k + 1) (n := 4) (i := 3) (b := b) (by decide) (by decide) h
  have e5 := fun b => big_end (k := k) (n := 4) (x := x) (b := b)
  refine e1.trans ((e2 _ rfl).trans ((e3 _ rfl).trans ((e4 _ rfl).trans ((e5 _).trans ?_))))
  simp [b4]
theorem big8 {k : Nat} {x : Int} (hk : 9 ≤ k) : journal_big.f k x 8 = some (be8 x) := by
  obtain ⟨k, rfl⟩ : ∃ m, k = m + 9 := ⟨k - 9, by omega⟩
  unfold journal_big.f
  rw [if_pos (by decide), if_pos (by decide), Option.bind_some]
  have e1 := big_step (x := x) (k := k + 8) (n := 8) (i := 0) (b := [0, 0, 0, 0, 0, 0, 0, 0]) (by decide) (by decide) rfl
  have e2 := fun b h => big_step (x := x) (k := k + 7) (n := 8) (i := 1) (b := b) (by decide) (by decide) h
  have e3 := fun b h => big_step (x := x) (k := k + 6) (n := 8) (i := 2) (b := b) (by decide) (by decide) h
  have e4 := fun b h => big_step (x := x) (k := k + 5) (n := 8) (i := 3) (b := b) (by decide) (by decide) h
  have e5 := fun b h => big_step (x := x) (k := k + 4) (n := 8) (i := 4) (b := b) (by decide) (by decide) h
  have e6 := fun b h => big_step (x := x) (k := k + 3) (n := 8) (i := 5) (b := b) (by decide) (by decide) h
  have e7 := fun b h => big_step (x := x) (k := k + 2) (n := 8) (i := 6) (b := b) (by decide) (by decide) h
  have e8 := fun b h => big_step (x := x) (k := k + 1) (n := 8) (i := 7) (b := b) (by decide) (by decide) h
  have e9 := fun b => big_end (k := k) (n := 8) (x := x) (b := b)
  refine e1.trans ((e2 _ rfl).trans ((e3 _ rfl).trans ((e4 _ rfl).trans ((e5 _ rfl).trans ((e6 _ rfl).trans ((e7 _ rfl).trans ((e8 _ rfl).trans ((e9 _).trans ?_))))))))
  simp [be8]

theorem entry_is {b : List Int} {d : Int} {k : Nat} (hb : Bytes b) (hd : U64 d) (hl : b.length < 9223372036854775808) (hk : 25000 ≤ k) :
    journal_entry.f k b d = (match ent b d with
    | .error c => some (0, 0, 0, nul, [], 0, 0, some c)
    | .ok (n, m, d') => some (n.f0, n.f1, n.f2, n.f3, n.f4, (m : Int), d', none)) := by
  unfold ent journal_entry.f
  by_cases h1 : b.length < 4
  · rw [if_pos h1, if_pos (by omega)]
    rfl
  rw [if_neg h1, if_neg (by omega), if_pos (by omega), number_is (bytes_take hb 4) (by rw [List.length_take]; omega) (by omega), Option.bind_some]
  have hz := num_bound 4 (b.take 4) (by rw [List.length_take]; omega) (bytes_take hb 4)
  rw [show (256 : Int) ^ 4 = 4294967296 from by decide] at hz
  by_cases h2 : num (b.take 4) > 2000
  · rw [if_pos h2, if_pos h2]
    rfl
  rw [if_neg h2, if_neg h2, w64 (i := num (b.take 4)) (by omega) (by omega), w64 (i := 4 + num (b.take 4)) (by omega) (by omega), w64 (i := 4 + num (b.take 4) + 8) (by omega) (by omega)]
  by_cases h3 : b.length < 4 + (num (b.take 4)).toNat + 8
  · rw [if_pos h3, if_pos (by omega)]
    rfl
  rw [if_neg h3, if_neg (by omega), if_pos (by omega), if_pos (by omega), show (4 + num (b.take 4)).toNat = 4 + (num (b.take 4)).toNat from by omega, Dig.Chain_is hd (by rw [List.length_take]; omega) (by rw [List.length_take]; omega) (by omega), Option.bind_some,
    if_pos (by omega), if_pos (by omega), show (4 + num (b.take 4) + 8).toNat = 4 + (num (b.take 4)).toNat + 8 from by omega, number_is (bytes_drop (bytes_take hb _) _) (by rw [List.length_drop, List.length_take]; omega) (by omega), Option.bind_some]
  by_cases h4n : ¬ chain d (b.take (4 + (num (b.take 4)).toNat)) = num ((b.take (4 + (num (b.take 4)).toNat + 8)).drop (4 + (num (b.take 4)).toNat))
  · rw [if_neg h4n, if_neg (show ¬ iv (addB Dig.start (be8 d ++ b.take (4 + (num (b.take 4)).toNat))) = _ from h4n)]
    rfl
  have h4 := Classical.not_not.mp h4n
  rw [if_pos h4, if_pos (show iv (addB Dig.start (be8 d ++ b.take (4 + (num (b.take 4)).toNat))) = _ from h4), if_pos (by omega)]
  have hlen : ((b.take (4 + (num (b.take 4)).toNat)).drop 4).length = (num (b.take 4)).toNat := by rw [List.length_drop, List.length_take]; omega
  have hD := Cod.Decode_is (B := (b.take (4 + (num (b.take 4)).toNat)).drop 4) (k := k) (by omega) (bytes_drop (bytes_take hb _) _) (by omega)
  obtain ⟨he, hf⟩ := Cod.eff_short (B := (b.take (4 + (num (b.take 4)).toNat)).drop 4) (by omega)
  rw [he, hf] at hD
  cases e : pn 4 8 ((b.take (4 + (num (b.take 4)).toNat)).drop 4) with
  | error c =>
    rw [e] at hD
    obtain ⟨hc, hr⟩ := hD
    simp only [hr, Option.bind_some]
    rw [if_neg hc]
    rfl
  | ok y =>
    obtain ⟨n, s⟩ := y
    rw [e] at hD
    obtain ⟨hr, hs⟩ := hD
    simp only [hr, Option.bind_some]
    rw [if_pos trivial, w64 (by omega) (by omega)]
    by_cases h5 : s = []
    · rw [if_pos h5, if_pos (by rw [h5, hlen, List.length_nil]; omega)]
      simp only [Option.some.injEq, Prod.mk.injEq, true_and, and_true]
      exact ⟨by omega, rfl⟩
    · have : s.length ≠ 0 := fun h => h5 (List.eq_nil_of_length_eq_zero h)
      rw [if_neg h5, if_neg (by rw [hlen]; omega)]
      rfl
theorem Of_is {k : Nat} (hk : 9 ≤ k) : digest_Of.f k [] = some (iv Dig.start) := by
  unfold digest_Of.f
  rw [Dig.Add_is Dig.start_u64 (by decide) (by simp only [List.length_nil]; omega), Option.bind_some, Dig.bv_start]
  rfl
def d0 : Int := iv Dig.start
theorem d0_u64 : U64 d0 := iv_u64 _
theorem read_l0 {b : List Int} (hb : Bytes b) (hl : b.length < 9223372036854775808) : ∀ (c at_ k : Nat) (acc : List S43) (d : Int), c + acc.length = 300 → at_ ≤ b.length → U64 d → 25000 + c + 2 ≤ k →
    journal_read.l0 k b acc (at_ : Int) d = some (acc ++ (jr c (b.drop at_) d).1, (at_ : Int) + ((jr c (b.drop at_) d).2.1 : Int), (jr c (b.drop at_) d).2.2.1, (jr c (b.drop at_) d).2.2.2) := by
  intro c
  induction c with
  | zero =>
    intro p k acc d hc hp hd hk
    obtain ⟨k, rfl⟩ : ∃ m, k = m + 1 := ⟨k - 1, by omega⟩
    simp only [journal_read.l0]
    by_cases h : p < b.length
    · rw [if_pos (by omega), if_pos (by omega), jr, if_neg (by intro e; have := congrArg List.length e; rw [List.length_drop, List.length_nil] at this; omega)]
      simp
    · rw [if_neg (by omega), List.drop_of_length_le (by omega), jr_nil]
      simp
  | succ c ih =>
    intro p k acc d hc hp hd hk
    obtain ⟨k, rfl⟩ : ∃ m, k = m + 1 := ⟨k - 1, by omega⟩
    simp only [journal_read.l0]
    by_cases h : p < b.length
    · have hne : b.drop p ≠ [] := by intro e; have := congrArg List.length e; rw [List.length_drop, List.length_nil] at this; omega
      have he := entry_is (b := b.drop p) (d := d) (k := k) (bytes_drop hb p) hd (by rw [List.length_drop]; omega) (by omega)
      rw [if_pos (by omega), if_neg (by omega), if_pos (by omega), if_pos (by omega), Int.toNat_natCast]
      cases e : ent (b.drop p) d with
      | error x =>
        rw [e] at he
        dsimp only at he
        rw [jr_err hne e]
        simp only [he, Option.bind_some]
        rw [if_neg (by simp)]
        simp
      | ok y =>
        obtain ⟨n, m, d'⟩ := y
        have hm := ent_pos e
        obtain ⟨_, _, _, _, h5, _⟩ := ent_ok e
        rw [List.length_drop] at hm
        rw [e] at he
        dsimp only at he
        rw [jr_ok e]
        simp only [he, Option.bind_some]
        rw [if_pos (by simp), if_pos (by omega), w64 (by omega) (by omega)]
        have hi := ih (p + m) k (acc ++ [n]) d' (by rw [List.length_append, List.length_singleton]; omega) (by omega) (by rw [h5]; exact chain_u64 _ _) (by omega)
        rw [show ((p + m : Nat) : Int) = (p : Int) + (m : Int) from by omega] at hi
        rw [show (⟨n.f0, n.f1, n.f2, n.f3, n.f4⟩ : S43) = n from by cases n; rfl, hi, List.drop_drop]
        simp only [List.append_assoc, List.cons_append, List.nil_append, Option.some.injEq, Prod.mk.injEq, true_and, and_true]
        omega
    · rw [if_neg (by omega), List.drop_of_length_le (by omega), jr_nil]
      simp
/-- The whole reading of a journal. -/
def R (b : List Int) : List S43 × Nat × Int × Option Int := jr 300 b d0
theorem read_is {b : List Int} {k : Nat} (hb : Bytes b) (hl : b.length < 9223372036854775808) (hk : 26000 ≤ k) : journal_read.f k b = some ((R b).1, ((R b).2.1 : Int), (R b).2.2.1, (R b).2.2.2) := by
  have e := read_l0 hb hl 300 0 k [] d0 rfl (by omega) d0_u64 (by omega)
  unfold journal_read.f
  rw [Of_is (by omega), Option.bind_some]
  rw [List.drop_zero, List.nil_append, show ((0 : Nat) : Int) = 0 from rfl, Int.zero_add] at e
  exact e
theorem R_props (b : List Int) : (R b).1.length ≤ 300 ∧ (R b).2.1 ≤ b.length ∧ (R b).2.1 ≤ 2012 * (R b).1.length ∧ U64 (R b).2.2.1 ∧
    ((R b).2.2.2 = none ↔ (R b).2.1 = b.length) ∧ (∀ e, (R b).2.2.2 = some e → e = 4 ∨ e = 5 ∨ e = 12 ∨ e = 2) ∧ (Bytes b → ∀ n ∈ (R b).1, Ok 8 n) := jr_props 300 b d0 d0_u64
theorem Read_is {b : List Int} {k : Nat} (hb : Bytes b) (hl : b.length < 9223372036854775808) (hk : 26000 ≤ k) : journal_Read.f k b = some ((R b).1, ((R b).2.1 : Int), (R b).2.2.2.getD 0) := by
  unfold journal_Read.f journal_code.f
  rw [read_is hb hl hk]
  rfl
theorem Count_is {b : List Int} {k : Nat} (hb : Bytes b) (hl : b.length < 9223372036854775808) (hk : 26000 ≤ k) : journal_Count.f k b = some ((R b).1.length : Int) := by
  unfold journal_Count.f
  rw [read_is hb hl hk]
  rfl
theorem Last_is {b : List Int} {k : Nat} (hb : Bytes b) (hl : b.length < 9223372036854775808) (hk : 26000 ≤ k) :
    ((R b).2.2.2 = none → journal_Last.f k b = some ((R b).2.2.1, 0)) ∧ (∀ e, (R b).2.2.2 = some e → journal_Last.f k b = some (0, e)) := by
  obtain ⟨_, _, _, _, _, h6, _⟩ := R_props b
  unfold journal_Last.f journal_code.f
  rw [read_is hb hl hk]
  simp only [Option.bind_some]
  constructor
  · intro h
    rw [h]
    rfl
  · intro e h
    rw [h, Option.getD_some, if_neg (by have := h6 e h; omega)]
theorem Extends_is (a b : List Int) (ha : Bytes a) (hb : Bytes b) : journal_Extends.f a b = some (decide (a.take b.length = b)) := by
  unfold journal_Extends.f bytes_HasPrefix.f bytes_Equal.f
  by_cases h : (a.length : Int) ≥ (b.length : Int)
  · rw [if_pos h, if_pos (by omega), if_pos (by omega), Int.toNat_natCast]
    simp only [Option.bind_some, Option.some.injEq]
    by_cases e : a.take b.length = b
    · rw [decide_eq_true e]
      exact beq_iff_eq.2 (by rw [e])
    · rw [decide_eq_false e]
      exact beq_eq_false_iff_ne.2 fun h => e (Cod.str_inj (bytes_take ha _) hb h)
  · rw [if_neg h, decide_eq_false (by intro e; have := congrArg List.length e; rw [List.length_take] at this; omega)]
    rfl
end Go.Proofs.YteeggfnailpcpaaDoor.Jou

