/- CodecEncodes in plain Lean: over the printed functions, for every node. -/
import Derived.Test.YtipjfhakcceebaaCodR
import Derived.Test.YtipjfhakcceebaaCodA
import Derived.Test.YtipjfhakcceebaaQx15
namespace Go.Proofs.Ytipjfhakcceebaa.Cod
open Go.RowKit Go.Proofs.Ytipjfhakcceebaa.Q Go.Proofs.YtipjfhakcceebaaW.PrintWords Go.Proofs.YtipjfhakcceebaaW.PrintLast Go.Proofs.YtipjfhakcceebaaW.PrintMore
theorem Pure.CodecEncodes (n : S24) (hw : Wf 8 n) : ∃ k, examboardlaw10_CodecEncodes.f k n.f0 n.f1 n.f2 n.f3 n.f4 = some true := by
  refine ⟨20000, ?_⟩
  unfold examboardlaw10_CodecEncodes.f
  obtain ⟨r1, r2⟩ := rEncode (k := 20000) hw (by decide)
  obtain ⟨v1, v2⟩ := rValid (k := 20000) hw (by decide)
  have ha := awake_is (k := 20000) (by decide)
  by_cases h : Fit n
  · rw [Encode_fit hw (by decide) h, Option.bind_some, r1 h, Option.bind_some, if_pos rfl, if_pos rfl, Valid_fit hw (by decide) h, Option.bind_some, v1 h, Option.bind_some, if_pos (by decide), ha, Option.bind_some]
  · rw [Encode_not hw (by decide) h, Option.bind_some, r2 h, Option.bind_some, if_pos rfl, if_pos rfl, Valid_not hw (by decide) h, Option.bind_some, v2 h, Option.bind_some, if_pos (by decide), ha, Option.bind_some]
end Go.Proofs.Ytipjfhakcceebaa.Cod
