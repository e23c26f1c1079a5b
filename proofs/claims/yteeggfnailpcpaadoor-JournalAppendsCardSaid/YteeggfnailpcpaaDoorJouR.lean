/- Words of the kit's printer that this claim uses, cut to these by wip/trim.py. -/
import Derived.Test.YteeggfnailpcpaaDoorJouF
import Derived.Test.YteeggfnailpcpaaDoorCodRD
import Derived.Test.YteeggfnailpcpaaDoorRefDig
import Derived.Test.YteeggfnailpcpaaDoorQx12
import Derived.Test.YteeggfnailpcpaaDoorQx13
namespace Go.Proofs.YteeggfnailpcpaaDoor.Jou
open Go.RowKit Go.Proofs.YteeggfnailpcpaaDoor.Q Go.Proofs.YteeggfnailpcpaaDoorW.PrintWords Go.Proofs.YteeggfnailpcpaaDoorW.PrintLast Go.Proofs.YteeggfnailpcpaaDoorW.PrintMore
open Go.Proofs.YteeggfnailpcpaaDoor.Cod (Bytes pn enc Ok Wf Fit pn_enc pn_acc enc_bytes bytes_append w64 wU orU nul)
open Go.Proofs.YteeggfnailpcpaaDoor.Dig (be8 addB iv bv U64 be8_length be8_bytes addB_append iv_u64 bv_iv iv_bv shrU)

theorem rnumber_l0 {b : List Int} {n : Nat} (hb : Bytes b) (hn : n ≤ 8) (hl : n ≤ b.length) : ∀ (m i k : Nat), i + m = n → m < k → examboardref49_number.l0 k b (n : Int) (num (b.take i)) (i : Int) = some (num (b.take n)) := by
  intro m
  induction m with
  | zero =>
    intro i k hi hk
    obtain ⟨k, rfl⟩ : ∃ m, k = m + 1 := ⟨k - 1, by omega⟩
    obtain rfl : i = n := by omega
    simp only [examboardref49_number.l0]
    rw [if_neg (by omega)]
  | succ m ih =>
    intro i k hi hk
    obtain ⟨k, rfl⟩ : ∃ m, k = m + 1 := ⟨k - 1, by omega⟩
    have hi1 : i < b.length := by omega
    have hx := num_bound i (b.take i) (by rw [List.length_take]; omega) (bytes_take hb i)
    have hp := pow256 (i := i) (by omega)
    have hc := hb _ (List.getElem_mem hi1)
    simp only [examboardref49_number.l0]
    rw [if_pos (by omega), if_pos (by omega), if_pos (by omega), rdI b i hi1, wU (n := num (b.take i) * 256) (by omega) (by omega), wU (n := b[i]) (by omega) (by omega), wU (by omega) (by omega), w64 (by omega) (by omega), ← num_snoc, ← takeI b i hi1]
    have e := ih (i + 1) k (by omega) (by omega)
    exact_mod_cast e
theorem rnumber_is {b : List Int} {n k : Nat} (hb : Bytes b) (hn : n ≤ 8) (hl : n ≤ b.length) (hk : 9 ≤ k) : examboardref49_number.f k b (n : Int) = some (num (b.take n)) :=
  rnumber_l0 hb hn hl n 0 k (by omega) (by omega)
theorem copied_l0 {b : List Int} (hl : b.length < 140737488355328) : ∀ (m i k : Nat), i + m = b.length → m < k → examboardref49_copied.l0 k (b.take i) b (b.length : Int) (i : Int) = some b := by
  intro m
  induction m with
  | zero =>
    intro i k hi hk
    obtain ⟨k, rfl⟩ : ∃ m, k = m + 1 := ⟨k - 1, by omega⟩
    simp only [examboardref49_copied.l0]
    rw [if_neg (by omega), List.take_of_length_le (by omega)]
  | succ m ih =>
    intro i k hi hk
    obtain ⟨k, rfl⟩ : ∃ m, k = m + 1 := ⟨k - 1, by omega⟩
    have hi1 : i < b.length := by omega
    simp only [examboardref49_copied.l0]
    rw [if_pos (by omega), if_pos (by omega), if_pos (by omega), if_pos (by rw [List.length_take]; omega), rdI b i hi1, ← takeI b i hi1, w64 (by omega) (by omega)]
    have e := ih (i + 1) k (by omega) (by omega)
    exact_mod_cast e
theorem copied_is {b : List Int} {k : Nat} (hl : b.length < 140737488355328) (hk : b.length < k) : examboardref49_copied.f k b = some b :=
  copied_l0 hl b.length 0 k (by omega) hk
theorem rentry_is {b : List Int} {c d : Int} {k : Nat} (hc : c < 300) (hb : Bytes b) (hd : U64 d) (hl : b.length < 9223372036854775808) (hk : 25000 ≤ k) :
    examboardref49_entry.f k b c d = (match ent b d with
    | .error e => some (0, 0, 0, nul, [], 0, 0, e)
    | .ok (n, m, d') => some (n.f0, n.f1, n.f2, n.f3, n.f4, (m : Int), d', 0)) := by
  have _ := hd
  unfold ent examboardref49_entry.f
  rw [if_neg (by omega)]
  by_cases h1 : b.length < 4
  · rw [if_pos h1, if_pos (by omega)]
    rfl
  rw [if_neg h1, if_neg (by omega), show (4 : Int) = ((4 : Nat) : Int) from rfl, rnumber_is hb (by decide) (by omega) (by omega), Option.bind_some]
  have hz := num_bound 4 (b.take 4) (by rw [List.length_take]; omega) (bytes_take hb 4)
  rw [show (256 : Int) ^ 4 = 4294967296 from by decide] at hz
  by_cases h2 : num (b.take 4) > 2000
  · rw [if_pos h2, if_pos h2]
    rfl
  rw [if_neg h2, if_neg h2, w64 (i := num (b.take 4)) (by omega) (by omega), w64 (i := ((4 : Nat) : Int) + num (b.take 4)) (by omega) (by omega), w64 (i := ((4 : Nat) : Int) + num (b.take 4) + 8) (by omega) (by omega)]
  by_cases h3 : b.length < 4 + (num (b.take 4)).toNat + 8
  · rw [if_pos h3, if_pos (by omega)]
    rfl
  rw [if_neg h3, if_neg (by omega), if_pos (by omega), if_pos (by omega), show (((4 : Nat) : Int) + num (b.take 4)).toNat = 4 + (num (b.take 4)).toNat from by omega, Dig.ref_Chain_is (by rw [List.length_take]; omega) (by rw [List.length_take]; omega) (by omega), Option.bind_some,
    show (8 : Int) = ((8 : Nat) : Int) from rfl, rnumber_is (bytes_drop hb _) (by decide) (by rw [List.length_drop]; omega) (by omega), Option.bind_some, ← show (b.take (4 + (num (b.take 4)).toNat + 8)).drop (4 + (num (b.take 4)).toNat) = (b.drop (4 + (num (b.take 4)).toNat)).take 8 from by rw [List.drop_take, Nat.add_sub_cancel_left]]
  by_cases h4n : ¬ chain d (b.take (4 + (num (b.take 4)).toNat)) = num ((b.take (4 + (num (b.take 4)).toNat + 8)).drop (4 + (num (b.take 4)).toNat))
  · rw [if_neg h4n, if_neg (show ¬ num _ = iv (addB Dig.start (be8 d ++ b.take (4 + (num (b.take 4)).toNat))) from fun h => h4n h.symm)]
    rfl
  have h4 := Classical.not_not.mp h4n
  rw [if_pos h4, if_pos (show num _ = iv (addB Dig.start (be8 d ++ b.take (4 + (num (b.take 4)).toNat))) from h4.symm), if_pos (by omega)]
  have hlen : ((b.take (4 + (num (b.take 4)).toNat)).drop 4).length = (num (b.take 4)).toNat := by rw [List.length_drop, List.length_take]; omega
  have hD := Cod.rDecode_is (B := (b.take (4 + (num (b.take 4)).toNat)).drop 4) (k := k) (by omega) (bytes_drop (bytes_take hb _) _) (by omega)
  cases e : pn 4 8 ((b.take (4 + (num (b.take 4)).toNat)).drop 4) with
  | error c =>
    rw [e] at hD
    obtain ⟨a1, a2, a3, a4, a5, a6, a7, hr, hc⟩ := hD
    simp only [hr, Option.bind_some]
    rw [if_neg hc]
    rfl
  | ok y =>
    obtain ⟨n, s⟩ := y
    rw [e] at hD
    simp only [hD, Option.bind_some]
    rw [if_pos trivial]
    by_cases h5 : s = []
    · rw [if_pos h5, if_pos (by rw [h5, hlen, List.length_nil]; omega)]
      simp only [Option.some.injEq, Prod.mk.injEq, true_and, and_true]
      exact ⟨by omega, rfl⟩
    · have : s.length ≠ 0 := fun h => h5 (List.eq_nil_of_length_eq_zero h)
      rw [if_neg h5, if_neg (by rw [hlen]; omega)]
      rfl
theorem rOf_is {k : Nat} (hk : 9 ≤ k) : examboardref11_Of.f k [] = some d0 := by
  unfold examboardref11_Of.f
  rw [Dig.ref_Add_is Dig.start_u64 (by decide) (by simp only [List.length_nil]; omega), Option.bind_some, Dig.bv_start]
  rfl
theorem rentry_full {b : List Int} {d c : Int} {k : Nat} (hc : 300 ≤ c) : examboardref49_entry.f k b c d = some (0, 0, 0, nul, [], 0, 0, 5) := by
  unfold examboardref49_entry.f
  rw [if_pos (by omega)]
  rfl
theorem rread_l0 {b : List Int} (hb : Bytes b) (hl : b.length < 9223372036854775808) : ∀ (c at_ k : Nat) (acc : List S43) (d : Int), c + acc.length = 300 → at_ ≤ b.length → U64 d → 25000 + c + 2 ≤ k →
    examboardref49_read.l0 k b acc (at_ : Int) d = some (acc ++ (jr c (b.drop at_) d).1, (at_ : Int) + ((jr c (b.drop at_) d).2.1 : Int), (jr c (b.drop at_) d).2.2.1, (jr c (b.drop at_) d).2.2.2.getD 0) := by
  intro c
  induction c with
  | zero =>
    intro p k acc d hc hp hd hk
    obtain ⟨k, rfl⟩ : ∃ m, k = m + 1 := ⟨k - 1, by omega⟩
    simp only [examboardref49_read.l0]
    by_cases h : p < b.length
    · rw [if_pos (by omega), if_pos (by omega), if_pos (by omega), rentry_full (by omega), jr, if_neg (by intro e; have := congrArg List.length e; rw [List.length_drop, List.length_nil] at this; omega), Option.bind_some]
      simp
    · rw [if_neg (by omega), List.drop_of_length_le (by omega), jr_nil]
      simp
  | succ c ih =>
    intro p k acc d hc hp hd hk
    obtain ⟨k, rfl⟩ : ∃ m, k = m + 1 := ⟨k - 1, by omega⟩
    simp only [examboardref49_read.l0]
    by_cases h : p < b.length
    · have hne : b.drop p ≠ [] := by intro e; have := congrArg List.length e; rw [List.length_drop, List.length_nil] at this; omega
      have he := rentry_is (b := b.drop p) (c := (acc.length : Int)) (d := d) (k := k) (by omega) (bytes_drop hb p) hd (by rw [List.length_drop]; omega) (by omega)
      rw [if_pos (by omega), if_pos (by omega), if_pos (by omega), Int.toNat_natCast]
      cases e : ent (b.drop p) d with
      | error x =>
        have hx := ent_err e
        rw [e] at he
        dsimp only at he
        rw [jr_err hne e]
        simp only [he, Option.bind_some]
        rw [if_neg (by omega)]
        simp
      | ok y =>
        obtain ⟨n, m, d'⟩ := y
        have hm := ent_pos e
        obtain ⟨_, _, _, _, h5, _⟩ := ent_ok e
        rw [List.length_drop] at hm
        rw [e] at he
        dsimp only at he
        rw [jr_ok e]
        simp only [he, Option.bind_some]
        rw [if_pos (by simp), if_pos (by omega), w64 (by omega) (by omega)]
        have hi := ih (p + m) k (acc ++ [n]) d' (by rw [List.length_append, List.length_singleton]; omega) (by omega) (by rw [h5]; exact chain_u64 _ _) (by omega)
        rw [show ((p + m : Nat) : Int) = (p : Int) + (m : Int) from by omega] at hi
        rw [show (⟨n.f0, n.f1, n.f2, n.f3, n.f4⟩ : S43) = n from by cases n; rfl, hi, List.drop_drop]
        simp only [List.append_assoc, List.cons_append, List.nil_append, Option.some.injEq, Prod.mk.injEq, true_and, and_true]
        omega
    · rw [if_neg (by omega), List.drop_of_length_le (by omega), jr_nil]
      simp
theorem rread_is {b : List Int} {k : Nat} (hb : Bytes b) (hl : b.length < 9223372036854775808) (hk : 26000 ≤ k) : examboardref49_read.f k b = some ((R b).1, ((R b).2.1 : Int), (R b).2.2.1, (R b).2.2.2.getD 0) := by
  have e := rread_l0 hb hl 300 0 k [] d0 rfl (by omega) d0_u64 (by omega)
  unfold examboardref49_read.f
  rw [rOf_is (by omega), Option.bind_some]
  rw [List.drop_zero, List.nil_append, show ((0 : Nat) : Int) = 0 from rfl, Int.zero_add] at e
  exact e
end Go.Proofs.YteeggfnailpcpaaDoor.Jou

