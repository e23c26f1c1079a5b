/- JournalTrim in plain Lean: over the printed functions, for all bytes. -/
import Derived.Test.YteeggfnailpcpaaDoorJouW
import Derived.Test.YteeggfnailpcpaaDoorQx23
namespace Go.Proofs.YteeggfnailpcpaaDoor.Jou
open Go.RowKit Go.Proofs.YteeggfnailpcpaaDoor.Q Go.Proofs.YteeggfnailpcpaaDoorW.PrintWords Go.Proofs.YteeggfnailpcpaaDoorW.PrintLast Go.Proofs.YteeggfnailpcpaaDoorW.PrintMore
open Go.Proofs.YteeggfnailpcpaaDoor.Cod (Bytes)
theorem Pure.JournalTrim (b : List Int) (hb : Bytes b) (hl : b.length < 9223372036854775808) : ∃ k, examboardlaw49_JournalTrim.f k b = some true := by
  refine ⟨800000, ?_⟩
  obtain ⟨p1, p2, p3, p4, p5, p6, p7⟩ := R_props b
  have hT : R (b.take (R b).2.1) = ((R b).1, (R b).2.1, (R b).2.2.1, none) := jr_take 300 b d0
  have ht : (b.take (R b).2.1).length = (R b).2.1 := by rw [List.length_take]; omega
  have hbt := bytes_take hb (R b).2.1
  obtain ⟨L, hL1⟩ : ∃ L : Int, journal_Last.f 800000 b = some (L, (R b).2.2.2.getD 0) := by
    cases h : (R b).2.2.2 with
    | none => exact ⟨_, (Last_is hb hl (by decide)).1 h⟩
    | some e => exact ⟨_, (Last_is hb hl (by decide)).2 e h⟩
  have hr1 := Read_is (k := 800000) hbt (by omega) (by decide)
  have hr2 := Count_is (k := 800000) hbt (by omega) (by decide)
  have hr3 := Trim_is (k := 800000) hbt (by omega) (by decide)
  have hr4 := (Last_is (k := 800000) hbt (by omega) (by decide)).1 (by rw [hT])
  rw [hT] at hr1 hr2 hr3 hr4
  dsimp only at hr3
  rw [List.take_take, Nat.min_self] at hr3
  have hx := Extends_is b (b.take (R b).2.1) hb hbt
  rw [decide_eq_true (by rw [ht])] at hx
  have hc := code_ne (b := b)
  unfold examboardlaw49_JournalTrim.f
  rw [Trim_is hb hl (by decide), Option.bind_some, Read_is hb hl (by decide), Option.bind_some, hr1, Option.bind_some]
  dsimp only
  rw [if_pos (show (none : Option Int).getD 0 = 0 from rfl), if_pos (by rw [ht]), if_pos rfl, same_refl p1 (p7 hb) (by decide), Option.bind_some, if_pos rfl, Count_is hb hl (by decide), Option.bind_some, if_pos rfl, hr2, Option.bind_some, if_pos rfl, hx, Option.bind_some, if_pos rfl, hr3, Option.bind_some,
    equal_refl (by omega) (by omega), Option.bind_some, if_pos rfl]
  rw [if_neg]
  · rw [hL1, Option.bind_some, hr4, Option.bind_some]
    dsimp only
    rw [if_pos rfl, if_pos rfl, awake_is (by decide)]
    rfl
  · by_cases h : (R b).2.2.2 = none
    · have h1 := p5.1 h
      rw [hc.2 h, h1]
      simp
    · have h1 : (R b).2.2.2.getD 0 ≠ 0 := fun e => h (hc.1 e)
      have h2 : ¬ ((R b).2.1 : Int) = (b.length : Int) := fun e => h (p5.2 (by omega))
      rw [beq_eq_false_iff_ne.2 h1, beq_eq_false_iff_ne.2 h2]
      decide
end Go.Proofs.YteeggfnailpcpaaDoor.Jou
