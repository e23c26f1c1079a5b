/- JournalAppend in plain Lean: over the printed functions, for all lists of nodes. -/
import Derived.Test.YteeggfnailpcpaaDoorJouW
import Derived.Test.YteeggfnailpcpaaDoorJouB
import Derived.Test.YteeggfnailpcpaaDoorQx26
namespace Go.Proofs.YteeggfnailpcpaaDoor.Jou
open Go.RowKit Go.Proofs.YteeggfnailpcpaaDoor.Q Go.Proofs.YteeggfnailpcpaaDoorW.PrintWords Go.Proofs.YteeggfnailpcpaaDoorW.PrintLast Go.Proofs.YteeggfnailpcpaaDoorW.PrintMore
open Go.Proofs.YteeggfnailpcpaaDoor.Cod (Bytes enc Ok Wf Fit w64 wU)
open Go.Proofs.YteeggfnailpcpaaDoor.Dig (be8 addB iv bv U64 be8_length)
theorem Pure.JournalAppend (ns : List S43) (hw : ∀ n ∈ ns, Wf 8 n) (hl : ns.length < 9223372036854775808) : ∃ k, examboardlaw49_JournalAppend.f k ns = some true := by
  refine ⟨ns.length + 800000, ?_⟩
  obtain ⟨c, hF, hc, hW⟩ := written_is (k := ns.length + 800000) hw hl (by omega)
  have hR := R_ents hF (by omega)
  have hB := ents_bytes c d0 hF
  have hL := ents_len c d0 hF
  have hr1 := Read_is (k := ns.length + 800000) hB (by omega) (by omega)
  have hr2 := (Last_is (k := ns.length + 800000) hB (by omega) (by omega)).1 (by rw [hR])
  have hr3 := Count_is (k := ns.length + 800000) hB (by omega) (by omega)
  rw [hR] at hr1 hr2 hr3
  unfold examboardlaw49_JournalAppend.f
  rw [hW, Option.bind_some, if_pos rfl, hr1, Option.bind_some, hr2, Option.bind_some]
  dsimp only
  rw [same_refl (by omega) (fun n hn => (hF n hn).1) (by omega), Option.bind_some, if_pos rfl, if_pos rfl, if_pos (show (none : Option Int).getD 0 = 0 from rfl), if_pos rfl, hr3, Option.bind_some, if_pos rfl]
  by_cases h0 : c.length = 0
  · obtain rfl := List.eq_nil_of_length_eq_zero h0
    rw [if_pos (by simp), if_pos (by simp [ents]), Of_is (by omega), Option.bind_some, if_pos (by rfl), awake_is (by omega)]
    rfl
  have hne : c ≠ [] := fun h => h0 (by rw [h]; rfl)
  obtain ⟨c', n, rfl⟩ : ∃ c' n, c = c' ++ [n] := ⟨c.dropLast, c.getLast hne, (List.dropLast_concat_getLast hne).symm⟩
  have hF' : ∀ x ∈ c', Fits x := fun x hx => hF x (by simp [hx])
  have hn := hF n (by simp)
  have hE : ents (c' ++ [n]) d0 = ents c' d0 ++ en n (dl c' d0) := by rw [ents_append]; simp [ents]
  have hD : dl (c' ++ [n]) d0 = chain (dl c' d0) (body n) := by rw [dl_append]; rfl
  have hlen : (ents (c' ++ [n]) d0).length = (ents c' d0).length + (body n).length + 8 := by rw [hE, List.length_append, en_len, body_len]; omega
  have hB' := ents_bytes c' d0 hF'
  have hcl : c'.length + 1 ≤ 10 := by simpa using hc
  have hR' := R_ents hF' (by omega)
  have hL' := ents_len c' d0 hF'
  have hbl := body_len n
  have hn2 := hn.2
  have hr4 := (Last_is (k := ns.length + 800000) hB' (by omega) (by omega)).1 (by rw [hR'])
  rw [hR'] at hr4
  dsimp only at hr4
  have ht : (ents (c' ++ [n]) d0).take (ents c' d0).length = ents c' d0 := by rw [hE, List.take_append_of_le_length (Nat.le_refl _), List.take_length]
  have hb : ((ents (c' ++ [n]) d0).take ((ents (c' ++ [n]) d0).length - 8)).drop (ents c' d0).length = body n := by
    rw [hlen, Nat.add_sub_cancel, hE, List.take_append, List.take_of_length_le (by omega), Nat.add_sub_cancel_left, List.drop_append_of_le_length (Nat.le_refl _), List.drop_length, List.nil_append]
    unfold en
    rw [List.take_append_of_le_length (Nat.le_refl _), List.take_length]
  have hch : digest_Chain.f (ns.length + 800000) (dl c' d0) (body n) = some (chain (dl c' d0) (body n)) := Dig.Chain_is (dl_u64 _ _ d0_u64) (by omega) (by omega) (by omega)
  rw [if_neg (by omega), endsOf_len]
  by_cases h1 : ((c' ++ [n]).length : Int) > 1
  · have hlc : (c' ++ [n]).length = c'.length + 1 := by simp
    have he : rd (endsOf (c' ++ [n])) (wrap64 (((c' ++ [n]).length : Int) - 2)) = ((ents c' d0).length : Int) := by
      rw [w64 (by omega) (by omega), show ((c' ++ [n]).length : Int) - 2 = ((c'.length - 1 : Nat) : Int) from by omega, endsOf_at _ _ (by omega), show c'.length - 1 + 1 = c'.length from by omega, List.take_append_of_le_length (Nat.le_refl _), List.take_length]
    rw [if_pos h1, if_pos (by rw [w64 (by omega) (by omega)]; omega), if_pos (by rw [w64 (by omega) (by omega)]; omega), he, if_pos (by omega), if_pos (by omega), Int.toNat_natCast, ht, hr4, Option.bind_some, w64 (i := ((ents (c' ++ [n]) d0).length : Int) - 8) (by omega) (by omega)]
    dsimp only
    rw [if_pos rfl, if_pos (by omega), if_pos (by omega), show (((ents (c' ++ [n]) d0).length : Int) - 8).toNat = (ents (c' ++ [n]) d0).length - 8 from by omega, hb, hch, Option.bind_some, if_pos hD, awake_is (by omega)]
    rfl
  · have hlc : (c' ++ [n]).length = c'.length + 1 := by simp
    obtain rfl : c' = [] := List.eq_nil_of_length_eq_zero (by omega)
    rw [if_neg h1, if_pos (by omega), show (ents ([] ++ [n]) d0).take 0 = ents [] d0 from ht, hr4, Option.bind_some, w64 (i := ((ents ([] ++ [n]) d0).length : Int) - 8) (by omega) (by omega)]
    dsimp only
    rw [if_pos rfl, if_pos (by omega), if_pos (by omega), show (((ents ([] ++ [n]) d0).length : Int) - 8).toNat = (ents ([] ++ [n]) d0).length - 8 from by omega, show ((ents ([] ++ [n]) d0).take ((ents ([] ++ [n]) d0).length - 8)).drop 0 = body n from hb, hch, Option.bind_some, if_pos hD, awake_is (by omega)]
    rfl
end Go.Proofs.YteeggfnailpcpaaDoor.Jou
