/- JournalPrefix in plain Lean: over the printed functions, for all lists of nodes and positions. -/
import Derived.Test.YteeggfnailpcpaaDoorJouW
import Derived.Test.YteeggfnailpcpaaDoorJouB
import Derived.Test.YteeggfnailpcpaaDoorQx22
namespace Go.Proofs.YteeggfnailpcpaaDoor.Jou
open Go.RowKit Go.Proofs.YteeggfnailpcpaaDoor.Q Go.Proofs.YteeggfnailpcpaaDoorW.PrintWords Go.Proofs.YteeggfnailpcpaaDoorW.PrintLast Go.Proofs.YteeggfnailpcpaaDoorW.PrintMore
open Go.Proofs.YteeggfnailpcpaaDoor.Cod (Bytes enc Ok Wf Fit w64 wU)
open Go.Proofs.YteeggfnailpcpaaDoor.Dig (be8 addB iv bv U64 be8_length)
/-- A position, cut down to a journal's length. -/
theorem cut_pos {x : Int} {m : Nat} (hx : 0 ≤ x) (hm : 0 < m) : ∃ q : Nat, Int.tmod x (m : Int) = (q : Int) ∧ q < m := by
  rw [Int.tmod_eq_emod_of_nonneg hx]
  have h1 := Int.emod_nonneg x (show (m : Int) ≠ 0 by omega)
  have h2 := Int.emod_lt_of_pos x (show (0 : Int) < (m : Int) by omega)
  exact ⟨(x % (m : Int)).toNat, by omega, by omega⟩
/-- Reading a journal that is cut off. -/
theorem R_cut {c : List S43} (hF : ∀ n ∈ c, Fits n) (hc : c.length ≤ 10) {q j : Nat} (hj : j ≤ c.length) (h1 : (ents (c.take j) d0).length ≤ q) (h2 : j < c.length → q < (ents (c.take (j + 1)) d0).length) (hq : q ≤ (ents c d0).length) :
    R ((ents c d0).take q) = (c.take j, (ents (c.take j) d0).length, dl (c.take j) d0, if q = (ents (c.take j) d0).length then none else some 4) := by
  have hFj : ∀ n ∈ c.take j, Fits n := fun n hn => hF n (List.mem_of_mem_take hn)
  have hlj : (c.take j).length = j := by rw [List.length_take]; omega
  have e : (ents c d0).take q = ents (c.take j) d0 ++ (ents (c.drop j) (dl (c.take j) d0)).take (q - (ents (c.take j) d0).length) := by
    have e1 : ents c d0 = ents (c.take j) d0 ++ ents (c.drop j) (dl (c.take j) d0) := by rw [← ents_append, List.take_append_drop]
    rw [e1, List.take_append, List.take_of_length_le (by omega)]
  have hr := jr_ents (c.take j) 300 d0 ((ents (c.drop j) (dl (c.take j) d0)).take (q - (ents (c.take j) d0).length)) hFj (by omega)
  rw [e]
  unfold R
  rw [hr, hlj]
  by_cases hq0 : q = (ents (c.take j) d0).length
  · rw [if_pos hq0, hq0, Nat.sub_self, List.take_zero, jr_nil]
    simp
  · rw [if_neg hq0]
    have hjlt : j < c.length := by
      rcases Nat.lt_or_ge j c.length with h | h
      · exact h
      · rw [List.take_of_length_le h] at h1 hq0; omega
    obtain ⟨n, r, hd⟩ : ∃ n r, c.drop j = n :: r := ⟨c[j], c.drop (j + 1), List.drop_eq_getElem_cons hjlt⟩
    have hn : Fits n := hF n (List.mem_of_mem_drop (by rw [hd]; simp))
    have ht : c.take (j + 1) = c.take j ++ [n] := by
      have : c[j] = n := by have := List.drop_eq_getElem_cons hjlt; rw [hd] at this; exact (List.cons.inj this).1.symm
      rw [List.take_add_one, List.getElem?_eq_getElem hjlt, this]; rfl
    have h3 := h2 hjlt
    rw [ht, ents_append, List.length_append] at h3
    simp only [ents, List.append_nil] at h3
    have hx : q - (ents (c.take j) d0).length < (en n (dl (c.take j) d0)).length := by omega
    have hcut := ent_cut hn (dl (c.take j) d0) (ents r (chain (dl (c.take j) d0) (body n))) hx
    have hne : (en n (dl (c.take j) d0) ++ ents r (chain (dl (c.take j) d0) (body n))).take (q - (ents (c.take j) d0).length) ≠ [] := by
      intro h
      have := congrArg List.length h
      rw [List.length_take, List.length_append, List.length_nil] at this
      omega
    rw [hd]
    simp only [ents]
    obtain ⟨m, hm⟩ : ∃ m, 300 - j = m + 1 := ⟨300 - j - 1, by omega⟩
    rw [hm, jr_err hne hcut]
    simp
theorem Pure.JournalPrefix (ns : List S43) (x : Int) (hw : ∀ n ∈ ns, Wf 8 n) (hl : ns.length < 9223372036854775808) (hx : 0 ≤ x ∧ x < 65536) : ∃ k, examboardlaw49_JournalPrefix.f k ns x = some true := by
  refine ⟨ns.length + 800002, ?_⟩
  obtain ⟨c, hF, hc, hW⟩ := written_is (k := ns.length + 800002) hw hl (by omega)
  have hB := ents_bytes c d0 hF
  have hL := ents_len c d0 hF
  unfold examboardlaw49_JournalPrefix.f
  rw [hW, Option.bind_some]
  dsimp only
  rw [if_pos rfl, w64 (i := x) (by omega) (by omega), w64 (i := ((ents c d0).length : Int) + 1) (by omega) (by omega), if_neg (by omega)]
  obtain ⟨q, hq, hq1⟩ := cut_pos (x := x) (m := (ents c d0).length + 1) hx.1 (by omega)
  rw [show (((ents c d0).length + 1 : Nat) : Int) = ((ents c d0).length : Int) + 1 from by omega] at hq
  rw [hq]
  obtain ⟨j, hj, h1, h2⟩ := complete_ex c q
  rw [complete_is hF hc hj h1 h2 (by omega), Option.bind_some]
  have hR := R_cut hF hc hj h1 h2 (by omega)
  have hE : (ents (c.take j) d0).length ≤ (ents c d0).length := by omega
  have hBq : Bytes ((ents c d0).take q) := bytes_take hB q
  have hlq : ((ents c d0).take q).length = q := by rw [List.length_take]; omega
  have hlj : (c.take j).length = j := by rw [List.length_take]; omega
  have main : examboardlaw49_JournalPrefix.j0 (ns.length + 800002) (ents c d0) c (q : Int) (j : Int) ((ents (c.take j) d0).length : Int) = some true := by
    have hr1 := Read_is (k := ns.length + 800001) hBq (by omega) (by omega)
    have hr2 := Trim_is (k := ns.length + 800000) hBq (by omega) (by omega)
    have hr3 := Count_is (k := ns.length + 800000) hBq (by omega) (by omega)
    rw [hR] at hr1 hr2 hr3
    dsimp only at hr1 hr2 hr3
    rw [List.take_take, Nat.min_eq_left h1] at hr2
    rw [hlj] at hr3
    have tail : ∀ f : Bool, f = false → examboardlaw49_JournalPrefix.j1 (ns.length + 800001) (ents c d0) (q : Int) (j : Int) ((ents (c.take j) d0).length : Int) f = some true := by
      rintro f rfl
      simp only [examboardlaw49_JournalPrefix.j1]
      rw [if_neg (by decide), if_pos (by omega), if_pos (by omega), Int.toNat_natCast, hr2, Option.bind_some, if_pos (by omega), if_pos (by omega), Int.toNat_natCast, equal_refl (by rw [List.length_take]; omega) (by rw [List.length_take]; omega), Option.bind_some, if_pos rfl, hr3, Option.bind_some, if_pos rfl, awake_is (by omega)]
      rfl
    simp only [examboardlaw49_JournalPrefix.j0]
    rw [if_pos (by omega), if_pos (by omega), Int.toNat_natCast, hr1, Option.bind_some, if_pos (by omega), if_pos (by omega), Int.toNat_natCast, same_refl (by omega) (fun n hn => (hF n (List.mem_of_mem_take hn)).1) (by omega), Option.bind_some, if_pos rfl, if_pos rfl]
    by_cases hq0 : q = (ents (c.take j) d0).length
    · rw [if_pos hq0, show (none : Option Int).getD 0 = 0 from rfl, if_neg (by rw [hq0]; simp), if_pos rfl]
      exact tail false rfl
    · have hne : ¬ (q : Int) = ((ents (c.take j) d0).length : Int) := by omega
      rw [if_neg hq0, show (some 4 : Option Int).getD 0 = 4 from rfl, if_neg (by rw [beq_eq_false_iff_ne.2 hne]; dsimp only; decide), if_neg (show ¬ (4 : Int) = 0 by decide)]
      exact tail _ rfl
  by_cases h0 : (j : Int) > 0
  · have he : rd (endsOf c) (wrap64 ((j : Int) - 1)) = ((ents (c.take j) d0).length : Int) := by
      rw [w64 (by omega) (by omega), show (j : Int) - 1 = ((j - 1 : Nat) : Int) from by omega, endsOf_at c (j - 1) (by omega), show j - 1 + 1 = j from by omega]
    rw [if_pos h0, if_pos (by rw [w64 (by omega) (by omega)]; omega), if_pos (by rw [w64 (by omega) (by omega), endsOf_len]; omega), he]
    exact main
  · obtain rfl : j = 0 := by omega
    rw [if_neg h0]
    exact main
end Go.Proofs.YteeggfnailpcpaaDoor.Jou
