/- What written and complete answer, by the plain theory of journals. -/
import Derived.Test.YteeggfnailpcpaaDoorJouA
import Derived.Test.YteeggfnailpcpaaDoorQx21
namespace Go.Proofs.YteeggfnailpcpaaDoor.Jou
open Go.RowKit Go.Proofs.YteeggfnailpcpaaDoor.Q Go.Proofs.YteeggfnailpcpaaDoorW.PrintWords Go.Proofs.YteeggfnailpcpaaDoorW.PrintLast Go.Proofs.YteeggfnailpcpaaDoorW.PrintMore
open Go.Proofs.YteeggfnailpcpaaDoor.Cod (Bytes pn enc Ok Wf Fit pn_enc pn_acc enc_bytes bytes_append w64 wU orU nul Encode_fit Encode_not rdT Equal_refl Ok_Wf)
open Go.Proofs.YteeggfnailpcpaaDoor.Dig (be8 addB iv bv U64 be8_length be8_bytes addB_append iv_u64 iv_inj bv_iv iv_bv be8_inj addB_left addB_change shrU)

def endsOf (a : List S43) : List Int := (List.range a.length).map fun i => ((ents (a.take (i + 1)) d0).length : Int)
theorem endsOf_len (a : List S43) : (endsOf a).length = a.length := by unfold endsOf; rw [List.length_map, List.length_range]
theorem endsOf_at (a : List S43) (i : Nat) (h : i < a.length) : rd (endsOf a) (i : Int) = ((ents (a.take (i + 1)) d0).length : Int) := by
  rw [rdI _ i (by rw [endsOf_len]; exact h)]
  unfold endsOf
  rw [List.getElem_map, List.getElem_range]
theorem endsOf_snoc (a : List S43) (n : S43) : endsOf (a ++ [n]) = endsOf a ++ [((ents (a ++ [n]) d0).length : Int)] := by
  unfold endsOf
  rw [List.length_append, List.length_singleton, List.range_succ, List.map_append, List.map_singleton]
  congr 1
  · refine List.map_congr_left fun i hi => ?_
    rw [List.take_append_of_le_length (by have := List.mem_range.1 hi; omega)]
  · rw [List.take_of_length_le (by simp)]
theorem written_l0 {ns : List S43} (hw : ∀ n ∈ ns, Wf 8 n) (hl : ns.length < 9223372036854775808) : ∀ (m i k : Nat) (a : List S43), i + m = ns.length → a.length ≤ 10 → (∀ n ∈ a, Fits n) → m + 30000 < k →
    ∃ c, (∀ n ∈ c, Fits n) ∧ c.length ≤ 10 ∧ examboardlaw49_written.l0 k (ents a d0) a (endsOf a) ns (ns.length : Int) (i : Int) = some (ents c d0, c, endsOf c, true) := by
  intro m
  induction m with
  | zero =>
    intro i k a hi ha hf hk
    obtain ⟨k, rfl⟩ : ∃ m, k = m + 1 := ⟨k - 1, by omega⟩
    refine ⟨a, hf, ha, ?_⟩
    simp only [examboardlaw49_written.l0]
    rw [if_neg (by omega)]
  | succ m ih =>
    intro i k a hi ha hf hk
    obtain ⟨k, rfl⟩ : ∃ m, k = m + 1 := ⟨k - 1, by omega⟩
    have hi1 : i < ns.length := by omega
    have hwn := hw _ (List.getElem_mem hi1)
    simp only [examboardlaw49_written.l0]
    rw [if_pos (by omega), if_pos (by omega), if_pos (by omega), rdT ns i hi1, w64 (i := (i : Int) + 1) (by omega) (by omega), show ((i : Int) + 1) = ((i + 1 : Nat) : Int) from by omega]
    have skip := ih (i + 1) k a (by omega) ha hf (by omega)
    by_cases hfit : Fit ns[i]
    · rw [Encode_fit hwn (by omega) hfit]
      simp only [Option.bind_some]
      by_cases h10 : (a.length : Int) = 10
      · rw [if_pos h10]; exact skip
      rw [if_neg h10, if_pos trivial]
      by_cases h2 : ((enc 8 ns[i]).length : Int) > 2000
      · rw [if_pos h2]; exact skip
      rw [if_neg h2]
      have hF : Fits ns[i] := ⟨hfit.1, by omega⟩
      have hR := R_ents hf (by omega)
      have hLen := ents_len a d0 hf
      have hB := ents_bytes a d0 hf
      rw [Append_ok (n := ns[i]) hB (by omega) (by omega) (by rw [hR]) hF (by rw [hR]; dsimp only; omega)]
      simp only [Option.bind_some, hR]
      have he : ents (a ++ [ns[i]]) d0 = ents a d0 ++ en ns[i] (dl a d0) := by rw [ents_append]; simp [ents]
      have hel := en_len ns[i] (dl a d0)
      rw [if_pos trivial, Extends_is _ _ (bytes_append.2 ⟨hB, en_bytes hfit.1 _⟩) hB, Option.bind_some, List.take_append_of_le_length (Nat.le_refl _), List.take_length, if_pos (by simp), if_pos (by rw [List.length_append, hel, w64 (i := ((ents a d0).length : Int) + ((enc 8 ns[i]).length : Int)) (by omega) (by omega), w64 (by omega) (by omega)]; omega),
        if_pos (by omega), if_pos (by rw [endsOf_len]; omega), ← he, ← endsOf_snoc, show (⟨ns[i].f0, ns[i].f1, ns[i].f2, ns[i].f3, ns[i].f4⟩ : S43) = ns[i] from by cases ns[i]; rfl]
      refine ih (i + 1) k (a ++ [ns[i]]) (by omega) (by rw [List.length_append, List.length_singleton]; omega) ?_ (by omega)
      intro n hn
      rcases List.mem_append.1 hn with h | h
      · exact hf n h
      · rw [List.mem_singleton.1 h]; exact hF
    · rw [Encode_not hwn (by omega) hfit]
      simp only [Option.bind_some]
      by_cases h10 : (a.length : Int) = 10
      · rw [if_pos h10]; exact skip
      rw [if_neg h10, if_neg (by decide)]
      exact skip
theorem written_is {ns : List S43} {k : Nat} (hw : ∀ n ∈ ns, Wf 8 n) (hl : ns.length < 9223372036854775808) (hk : ns.length + 30000 < k) :
    ∃ c, (∀ n ∈ c, Fits n) ∧ c.length ≤ 10 ∧ examboardlaw49_written.f k ns = some (ents c d0, c, endsOf c, true) :=
  written_l0 hw hl ns.length 0 k [] (by omega) (by decide) (fun n hn => by cases hn) hk
/-- How many entries end at or before a position. -/
theorem complete_l0 {a : List S43} (hf : ∀ n ∈ a, Fits n) (hl : a.length ≤ 10) {x : Nat} {j : Nat} (hj : j ≤ a.length) (h1 : (ents (a.take j) d0).length ≤ x) (h2 : j < a.length → x < (ents (a.take (j + 1)) d0).length) : ∀ (m i k : Nat), i + m = a.length → m < k →
    examboardlaw49_complete.l0 k (x : Int) ((min i j : Nat) : Int) (endsOf a) (a.length : Int) (i : Int) = some (j : Int) := by
  have mono : ∀ p q, p ≤ q → (ents (a.take p) d0).length ≤ (ents (a.take q) d0).length := by
    intro p q h
    have e : a.take q = a.take p ++ (a.take q).drop p := by
      have := (List.take_append_drop p (a.take q)).symm
      rwa [List.take_take, Nat.min_eq_left h] at this
    rw [e, ents_append, List.length_append]
    omega
  have _ := hf
  intro m
  induction m with
  | zero =>
    intro i k hi hk
    obtain ⟨k, rfl⟩ : ∃ m, k = m + 1 := ⟨k - 1, by omega⟩
    simp only [examboardlaw49_complete.l0]
    rw [if_neg (by omega), Nat.min_eq_right (by omega)]
  | succ m ih =>
    intro i k hi hk
    obtain ⟨k, rfl⟩ : ∃ m, k = m + 1 := ⟨k - 1, by omega⟩
    have hi1 : i < a.length := by omega
    simp only [examboardlaw49_complete.l0]
    rw [if_pos (by omega), if_pos (by omega), if_pos (by rw [endsOf_len]; omega), endsOf_at a i hi1, w64 (i := (i : Int) + 1) (by omega) (by omega), show ((i : Int) + 1) = ((i + 1 : Nat) : Int) from by omega]
    have e := ih (i + 1) k (by omega) (by omega)
    by_cases h : i < j
    · have := mono (i + 1) j (by omega)
      rw [if_pos (by omega), w64 (by omega) (by omega), show ((min i j : Nat) : Int) + 1 = ((min (i + 1) j : Nat) : Int) from by omega]
      exact e
    · have := mono (j + 1) (i + 1) (by omega)
      have := h2 (by omega)
      rw [if_neg (by omega), show (min i j : Nat) = min (i + 1) j from by omega]
      exact e
theorem complete_is {a : List S43} {k : Nat} (hf : ∀ n ∈ a, Fits n) (hl : a.length ≤ 10) {x : Nat} {j : Nat} (hj : j ≤ a.length) (h1 : (ents (a.take j) d0).length ≤ x) (h2 : j < a.length → x < (ents (a.take (j + 1)) d0).length) (hk : 20 ≤ k) :
    examboardlaw49_complete.f k (endsOf a) (x : Int) = some (j : Int) := by
  have e := complete_l0 hf hl hj h1 h2 a.length 0 k (by omega) (by omega)
  unfold examboardlaw49_complete.f
  rw [endsOf_len]
  rw [Nat.zero_min] at e
  exact e
/-- There is such a number. -/
theorem complete_ex (a : List S43) (x : Nat) : ∃ j, j ≤ a.length ∧ (ents (a.take j) d0).length ≤ x ∧ (j < a.length → x < (ents (a.take (j + 1)) d0).length) := by
  have key : ∀ m, m ≤ a.length → ∃ j, j ≤ m ∧ (ents (a.take j) d0).length ≤ x ∧ (j < m → x < (ents (a.take (j + 1)) d0).length) := by
    intro m
    induction m with
    | zero => intro _; exact ⟨0, Nat.le_refl _, Nat.zero_le _, fun h => absurd h (Nat.lt_irrefl _)⟩
    | succ m ih =>
      intro hm
      obtain ⟨j, h1, h2, h3⟩ := ih (by omega)
      by_cases hj : j < m
      · exact ⟨j, by omega, h2, fun _ => h3 hj⟩
      obtain rfl : j = m := by omega
      by_cases h : (ents (a.take (j + 1)) d0).length ≤ x
      · exact ⟨j + 1, Nat.le_refl _, h, fun h => absurd h (Nat.lt_irrefl _)⟩
      · exact ⟨j, by omega, h2, fun _ => by omega⟩
  exact key a.length (Nat.le_refl _)
end Go.Proofs.YteeggfnailpcpaaDoor.Jou
