/- Words of the kit's printer that this claim uses, cut to these by wip/trim.py. -/
import Derived.Test.YteeggfnailpcpaaDoorJouF
namespace Go.Proofs.YteeggfnailpcpaaDoor.Jou
open Go.RowKit Go.Proofs.YteeggfnailpcpaaDoor.Q Go.Proofs.YteeggfnailpcpaaDoorW.PrintWords Go.Proofs.YteeggfnailpcpaaDoorW.PrintLast Go.Proofs.YteeggfnailpcpaaDoorW.PrintMore
open Go.Proofs.YteeggfnailpcpaaDoor.Cod (Bytes pn enc Ok Wf Fit pn_enc pn_acc enc_bytes bytes_append w64 wU orU nul Encode_fit Encode_not rdT Ok_Wf)
open Go.Proofs.YteeggfnailpcpaaDoor.Dig (be8 addB iv bv U64 be8_length be8_bytes addB_append iv_u64 bv_iv iv_bv shrU)

theorem equal_l0 {a : List Int} (ha : a.length < 9223372036854775808) : ∀ (m i k : Nat), i + m = a.length → m < k → examboardlaw49_equal.l0 k a a (a.length : Int) (i : Int) = some true := by
  intro m
  induction m with
  | zero =>
    intro i k hi hk
    obtain ⟨k, rfl⟩ : ∃ m, k = m + 1 := ⟨k - 1, by omega⟩
    simp only [examboardlaw49_equal.l0]
    rw [if_neg (by omega)]
  | succ m ih =>
    intro i k hi hk
    obtain ⟨k, rfl⟩ : ∃ m, k = m + 1 := ⟨k - 1, by omega⟩
    simp only [examboardlaw49_equal.l0]
    rw [if_pos (by omega), if_pos (by omega), if_pos (by omega), if_pos (by omega), if_pos trivial, w64 (by omega) (by omega)]
    have e := ih (i + 1) k (by omega) (by omega)
    exact_mod_cast e
theorem equal_refl {a : List Int} {k : Nat} (ha : a.length < 9223372036854775808) (hk : a.length < k) : examboardlaw49_equal.f k a a = some true := by
  unfold examboardlaw49_equal.f
  rw [if_pos rfl]
  exact equal_l0 ha a.length 0 k (by omega) hk
/-- What Append answers, by the reading of the journal. -/
theorem Append_err {b : List Int} {n : S43} {k : Nat} {e : Int} (hb : Bytes b) (hl : b.length < 9223372036854775808) (hk : 26000 ≤ k) (h : (R b).2.2.2 = some e) : journal_Append.f k b n.f0 n.f1 n.f2 n.f3 n.f4 = some ([], e) := by
  obtain ⟨_, _, _, _, _, h6, _⟩ := R_props b
  unfold journal_Append.f journal_code.f
  rw [read_is hb hl hk]
  simp only [Option.bind_some]
  rw [h, Option.getD_some, if_neg (by have := h6 e h; omega)]
theorem Append_unfit {b : List Int} {n : S43} {k : Nat} (hb : Bytes b) (hl : b.length < 9223372036854775808) (hk : 26000 ≤ k) (h : (R b).2.2.2 = none) (hw : Wf 8 n) (hn : ¬ Fit n) : journal_Append.f k b n.f0 n.f1 n.f2 n.f3 n.f4 = some ([], 1) := by
  unfold journal_Append.f journal_code.f
  rw [read_is hb hl hk]
  simp only [Option.bind_some]
  rw [h, Option.getD_none, if_pos rfl, Encode_not hw (by omega) hn]
  simp only [Option.bind_some]
  rw [if_neg (by decide)]
theorem Append_long {b : List Int} {n : S43} {k : Nat} (hb : Bytes b) (hl : b.length < 9223372036854775808) (hk : 26000 ≤ k) (h : (R b).2.2.2 = none) (hw : Wf 8 n) (hn : Fit n) (hx : (enc 8 n).length > 2000 ∨ (R b).1.length ≥ 300) :
    journal_Append.f k b n.f0 n.f1 n.f2 n.f3 n.f4 = some ([], 5) := by
  obtain ⟨k, rfl⟩ : ∃ m, k = m + 1 := ⟨k - 1, by omega⟩
  unfold journal_Append.f journal_code.f
  rw [read_is hb hl hk]
  simp only [Option.bind_some]
  rw [h, Option.getD_none, if_pos rfl, Encode_fit hw (by omega) hn]
  simp only [Option.bind_some, journal_Append.j0]
  rw [if_pos trivial]
  by_cases h1 : (enc 8 n).length > 2000
  · rw [if_pos (by omega), if_pos trivial]
  · rw [if_neg (by omega), if_pos (by rw [decide_eq_true_eq]; omega)]
theorem Append_ok {b : List Int} {n : S43} {k : Nat} (hb : Bytes b) (hl : b.length ≤ 700000) (hk : 26000 ≤ k) (h : (R b).2.2.2 = none) (hn : Fits n) (hx : (R b).1.length < 300) :
    journal_Append.f k b n.f0 n.f1 n.f2 n.f3 n.f4 = some (b ++ en n (R b).2.2.1, 0) := by
  obtain ⟨k, rfl⟩ : ∃ m, k = m + 1 := ⟨k - 1, by omega⟩
  obtain ⟨_, _, _, h4, _⟩ := R_props b
  obtain ⟨ho, hn2⟩ := hn
  have hB := body_len n
  have hw := Ok_Wf 8 n ho
  unfold journal_Append.f journal_code.f
  rw [read_is hb (by omega) hk]
  simp only [Option.bind_some]
  rw [h, Option.getD_none, if_pos rfl, Encode_fit hw (by omega) ⟨ho, by omega⟩]
  simp only [Option.bind_some, journal_Append.j0, bytes_Clone.f]
  rw [if_pos trivial, if_neg (by omega), if_neg (by rw [decide_eq_true_eq]; omega), wU (by omega) (by omega), big4 (by omega), Option.bind_some, if_pos (by simp only [b4, List.length_cons, List.length_nil]; omega), if_pos (by omega)]
  rw [show b4 ((enc 8 n).length : Int) ++ enc 8 n = body n from rfl]
  simp only [Option.bind_some]
  rw [if_pos (by omega), Dig.Chain_is h4 (by omega) (by omega) (by omega), Option.bind_some, show iv (addB Dig.start (be8 (R b).2.2.1 ++ body n)) = chain (R b).2.2.1 (body n) from rfl, big8 (by omega), Option.bind_some,
    if_pos (by rw [List.length_append, be8_length]; omega), List.append_assoc]
  rfl

theorem R_ents {a : List S43} (h : ∀ n ∈ a, Fits n) (hc : a.length ≤ 300) : R (ents a d0) = (a, (ents a d0).length, dl a d0, none) := jr_all a 300 d0 h hc
end Go.Proofs.YteeggfnailpcpaaDoor.Jou

