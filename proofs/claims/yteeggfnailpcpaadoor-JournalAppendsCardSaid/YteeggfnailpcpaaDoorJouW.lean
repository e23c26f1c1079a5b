/- Words of the kit's printer that this claim uses, cut to these by wip/trim.py. -/
import Derived.Test.YteeggfnailpcpaaDoorJouA
import Derived.Test.YteeggfnailpcpaaDoorQx10
namespace Go.Proofs.YteeggfnailpcpaaDoor.Jou
open Go.RowKit Go.Proofs.YteeggfnailpcpaaDoor.Q Go.Proofs.YteeggfnailpcpaaDoorW.PrintWords Go.Proofs.YteeggfnailpcpaaDoorW.PrintLast Go.Proofs.YteeggfnailpcpaaDoorW.PrintMore
open Go.Proofs.YteeggfnailpcpaaDoor.Cod (Bytes pn enc Ok Wf Fit nul vi zz bytes_append)
open Go.Proofs.YteeggfnailpcpaaDoor.Dig (be8 addB iv bv U64 be8_length be8_bytes)

def m0 : S43 := ⟨1, 1, 5, nul, []⟩
theorem enc_m0 : enc 8 m0 = [1, 1, 10] := by
  unfold m0
  rw [enc, if_pos rfl]
  have h1 : vi 9 1 = [1] := by rw [vi, if_neg (by decide)]
  have h2 : zz 5 = 10 := by unfold zz; decide
  have h3 : vi 9 10 = [10] := by rw [vi, if_neg (by decide)]
  show vi 9 1 ++ [1] ++ vi 9 (zz 5) = _
  rw [h1, h2, h3]
  rfl
theorem fits_m0 : Fits m0 := by
  refine ⟨?_, by rw [enc_m0]; decide⟩
  unfold m0 Ok
  exact ⟨⟨by decide, by decide⟩, .inl ⟨rfl, ⟨by decide, by decide⟩, rfl, rfl⟩⟩
theorem body_m0 : body m0 = [0, 0, 0, 3, 1, 1, 10] := by
  unfold body
  rw [enc_m0]
  rfl
theorem R_nil : R [] = ([], 0, d0, none) := jr_nil 300 d0
theorem awake_is {k : Nat} (hk : 26000 ≤ k) : examboardlaw49_awake.f k = some true := by
  have hF : ∀ n ∈ [m0], Fits n := fun n hn => by rw [List.mem_singleton.1 hn]; exact fits_m0
  have hE : ents [m0] d0 = en m0 d0 := by simp [ents]
  have hR : R (en m0 d0) = ([m0], 15, chain d0 (body m0), none) := by
    have e := R_ents hF (by decide)
    rw [hE, en_len, enc_m0] at e
    exact e
  have hl : (en m0 d0).length = 15 := by rw [en_len, enc_m0]; rfl
  have hb : Bytes (en m0 d0) := en_bytes fits_m0.1 d0
  have hA : journal_Append.f k [] 1 1 5 (⟨#[]⟩ : ByteArray) [] = some (en m0 d0, 0) := by
    have e := Append_ok (b := []) (n := m0) (k := k) (fun x hx => by cases hx) (by decide) hk (by rw [R_nil]) fits_m0 (by rw [R_nil]; decide)
    rw [R_nil, List.nil_append] at e
    exact e
  have h7 : (en m0 d0).take 7 = [0, 0, 0, 3, 1, 1, 10] := by
    unfold en
    rw [List.take_append_of_le_length (by rw [body_m0]; decide), body_m0]
    rfl
  have hR2 : R ((en m0 d0).take 14) = ([], 0, d0, some 4) := by
    have e := ent_cut fits_m0 d0 [] (x := 14) (by rw [hl]; decide)
    rw [List.append_nil] at e
    exact jr_err (c := 299) (by intro h; have := congrArg List.length h; rw [List.length_take, hl] at this; cases this) e
  have hr1 := Read_is (k := k) hb (by rw [hl]; decide) hk
  have hr2 := Read_is (b := (en m0 d0).take 14) (k := k) (bytes_take hb 14) (by rw [List.length_take, hl]; decide) hk
  have hr3 := (Last_is (k := k) hb (by rw [hl]; decide) hk).1 (by rw [hR])
  have hr4 := Count_is (k := k) hb (by rw [hl]; decide) hk
  rw [hR] at hr1 hr3 hr4
  rw [hR2] at hr2
  have hx := Extends_is (en m0 d0) ((en m0 d0).take 3) hb (bytes_take hb 3)
  rw [decide_eq_true (by rw [List.length_take, hl]; rfl)] at hx
  have hc : digest_Chain.f k d0 [0, 0, 0, 3, 1, 1, 10] = some (chain d0 (body m0)) := by
    rw [Dig.Chain_is d0_u64 (by decide) (by simp only [List.length_cons, List.length_nil]; omega) (by omega), body_m0]
    rfl
  unfold examboardlaw49_awake.f
  rw [hA, Option.bind_some, if_pos rfl, if_pos (by dsimp only; omega), if_pos (by dsimp only; omega), h7, equal_refl (by decide) (by simp only [List.length_cons, List.length_nil]; omega), Option.bind_some, if_pos rfl, hr1, Option.bind_some, if_pos (by dsimp only; omega), hr2, Option.bind_some, hr3, Option.bind_some]
  dsimp only
  rw [if_pos (show (([m0] : List S43).length : Int) = 1 from rfl), if_pos (show (0 : Int) < (([m0] : List S43).length : Int) from by decide), if_pos (show (rd_T43 [m0] 0).f2 = 5 from rfl), if_pos (show ((15 : Nat) : Int) = 15 from rfl), if_pos (show (none : Option Int).getD 0 = 0 from rfl), if_pos (show (([] : List S43).length : Int) = 0 from rfl), if_pos (show ((0 : Nat) : Int) = 0 from rfl), if_pos (show (some 4 : Option Int).getD 0 = 4 from rfl), Of_is (by omega), Option.bind_some, show iv Dig.start = d0 from rfl, hc, Option.bind_some, if_pos rfl, if_pos rfl, if_pos (by omega), hx, Option.bind_some, if_pos rfl, hr4]
  rfl
end Go.Proofs.YteeggfnailpcpaaDoor.Jou

