/- JournalAppends in plain Lean: over the printed functions, for all bytes and nodes. -/
import Derived.Test.YteeggfnailpcpaaDoorJouW
import Derived.Test.YteeggfnailpcpaaDoorJouS
import Derived.Test.YteeggfnailpcpaaDoorQx23
namespace Go.Proofs.YteeggfnailpcpaaDoor.Jou
open Go.RowKit Go.Proofs.YteeggfnailpcpaaDoor.Q Go.Proofs.YteeggfnailpcpaaDoorW.PrintWords Go.Proofs.YteeggfnailpcpaaDoorW.PrintLast Go.Proofs.YteeggfnailpcpaaDoorW.PrintMore
open Go.Proofs.YteeggfnailpcpaaDoor.Cod (Bytes enc Ok Wf Fit w64 wU rEncode)
open Go.Proofs.YteeggfnailpcpaaDoor.Dig (be8 addB iv bv U64 be8_length)
/-- Both Appends answer alike. -/
theorem appends {b : List Int} {n : S43} {k : Nat} (hb : Bytes b) (hl : b.length < 9223372036854775808) (hk : 800000 ≤ k) (hw : Wf 8 n) :
    ∃ r : List Int × Int, journal_Append.f k b n.f0 n.f1 n.f2 n.f3 n.f4 = some r ∧ examboardref49_Append.f k b n.f0 n.f1 n.f2 n.f3 n.f4 = some r ∧ r.1.length ≤ 700000 := by
  obtain ⟨k, rfl⟩ : ∃ m, k = m + 1 := ⟨k - 1, by omega⟩
  obtain ⟨p1, p2, p3, p4, p5, p6, p7⟩ := R_props b
  obtain ⟨q1, q2⟩ := rEncode (k := k + 1) hw (by omega)
  cases h : (R b).2.2.2 with
  | some e =>
    refine ⟨_, Append_err hb hl (by omega) h, ?_, Nat.zero_le _⟩
    unfold examboardref49_Append.f
    rw [rread_is hb hl (by omega)]
    simp only [Option.bind_some]
    rw [h, Option.getD_some, if_neg (by have := p6 e h; omega)]
  | none =>
    have hlen := p5.1 h
    by_cases hn : Fit n
    · by_cases hx : (enc 8 n).length > 2000 ∨ (R b).1.length ≥ 300
      · refine ⟨_, Append_long hb hl (by omega) h hw hn hx, ?_, Nat.zero_le _⟩
        unfold examboardref49_Append.f
        rw [rread_is hb hl (by omega)]
        simp only [Option.bind_some]
        rw [h, Option.getD_none, if_pos rfl, q1 hn]
        simp only [Option.bind_some, examboardref49_Append.j0]
        rw [if_pos trivial]
        by_cases h1 : (enc 8 n).length > 2000
        · rw [if_pos (by omega), if_pos trivial]
        · rw [if_neg (by omega), if_pos (by rw [decide_eq_true_eq]; omega)]
      · have hF : Fits n := ⟨hn.1, by omega⟩
        have hB := body_len n
        refine ⟨_, Append_ok hb (by omega) (by omega) h hF (by omega), ?_, ?_⟩
        · unfold examboardref49_Append.f
          rw [rread_is hb hl (by omega)]
          simp only [Option.bind_some]
          rw [h, Option.getD_none, if_pos rfl, q1 hn]
          simp only [Option.bind_some, examboardref49_Append.j0]
          rw [if_pos trivial, if_neg (by omega), if_neg (by rw [decide_eq_true_eq]; omega), wU (by omega) (by omega), rbytes4 ⟨by omega, by omega⟩ (by omega), Option.bind_some, if_pos (by simp only [b4, List.length_cons, List.length_nil]; omega)]
          rw [show b4 ((enc 8 n).length : Int) ++ enc 8 n = body n from rfl, copied_is (by omega) (by omega)]
          simp only [Option.bind_some]
          rw [if_pos (by omega), Dig.ref_Chain_is (by omega) (by omega) (by omega), Option.bind_some, show iv (addB Dig.start (be8 (R b).2.2.1 ++ body n)) = chain (R b).2.2.1 (body n) from rfl, rbytes8 (chain_u64 _ _) (by omega), Option.bind_some,
            if_pos (by rw [List.length_append, be8_length]; omega), List.append_assoc]
          rfl
        · rw [List.length_append, en_len]
          omega
    · refine ⟨_, Append_unfit hb hl (by omega) h hw hn, ?_, Nat.zero_le _⟩
      unfold examboardref49_Append.f
      rw [rread_is hb hl (by omega)]
      simp only [Option.bind_some]
      rw [h, Option.getD_none, if_pos rfl, q2 hn]
      simp only [Option.bind_some]
      rw [if_neg (by decide)]
theorem Pure.JournalAppends (b : List Int) (n : S43) (p : List Int) (hb : Bytes b) (hl : b.length < 9223372036854775808) (hw : Wf 8 n) (hp : Bytes p) : ∃ k, examboardlaw49_JournalAppends.f k b n.f0 n.f1 n.f2 n.f3 n.f4 p = some true := by
  refine ⟨p.length + 800000, ?_⟩
  obtain ⟨r, h1, h2, h3⟩ := appends (k := p.length + 800000) hb hl (by omega) hw
  unfold examboardlaw49_JournalAppends.f
  rw [h1, Option.bind_some, h2, Option.bind_some, equal_refl (by omega) (by omega), Option.bind_some, if_pos rfl, if_pos rfl, Extends_is b p hb hp, Option.bind_some, rExtends_is hl (by omega), Option.bind_some, if_pos (by simp), awake_is (by omega)]
  rfl
end Go.Proofs.YteeggfnailpcpaaDoor.Jou
