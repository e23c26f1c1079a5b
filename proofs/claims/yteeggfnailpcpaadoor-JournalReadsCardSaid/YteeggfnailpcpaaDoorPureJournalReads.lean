/- JournalReads in plain Lean: over the printed functions, for all bytes. -/
import Derived.Test.YteeggfnailpcpaaDoorJouW
import Derived.Test.YteeggfnailpcpaaDoorJouR
import Derived.Test.YteeggfnailpcpaaDoorQx27
namespace Go.Proofs.YteeggfnailpcpaaDoor.Jou
open Go.RowKit Go.Proofs.YteeggfnailpcpaaDoor.Q Go.Proofs.YteeggfnailpcpaaDoorW.PrintWords Go.Proofs.YteeggfnailpcpaaDoorW.PrintLast Go.Proofs.YteeggfnailpcpaaDoorW.PrintMore
open Go.Proofs.YteeggfnailpcpaaDoor.Cod (Bytes)
theorem Pure.JournalReads (b : List Int) (hb : Bytes b) (hl : b.length < 9223372036854775808) : ∃ k, examboardlaw49_JournalReads.f k b = some true := by
  refine ⟨800000, ?_⟩
  obtain ⟨p1, p2, p3, p4, p5, p6, p7⟩ := R_props b
  obtain ⟨L, hL1, hL2⟩ : ∃ L : Int × Int, journal_Last.f 800000 b = some L ∧ examboardref49_Last.f 800000 b = some L := by
    cases h : (R b).2.2.2 with
    | none => exact ⟨_, (Last_is hb hl (by decide)).1 h, (rLast_is hb hl (by decide)).1 h⟩
    | some e => exact ⟨_, (Last_is hb hl (by decide)).2 e h, (rLast_is hb hl (by decide)).2 e h⟩
  have ht : (b.take (R b).2.1).length ≤ 603600 := by rw [List.length_take]; omega
  unfold examboardlaw49_JournalReads.f
  rw [Read_is hb hl (by decide), Option.bind_some, rRead_is hb hl (by decide), Option.bind_some, hL1, Option.bind_some, hL2, Option.bind_some, same_refl p1 (p7 hb) (by decide), Option.bind_some, if_pos rfl, if_pos rfl, if_pos rfl, if_pos rfl, if_pos rfl,
    Trim_is hb hl (by decide), Option.bind_some, rTrim_is hb hl (by decide), Option.bind_some, equal_refl (by omega) (by omega), Option.bind_some, if_pos rfl, Count_is hb hl (by decide), Option.bind_some, rCount_is hb hl (by decide), Option.bind_some, if_pos rfl, awake_is (by decide)]
  rfl
end Go.Proofs.YteeggfnailpcpaaDoor.Jou
