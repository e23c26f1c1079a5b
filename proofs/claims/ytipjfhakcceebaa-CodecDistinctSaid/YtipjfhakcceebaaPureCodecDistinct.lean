/- CodecDistinct in plain Lean: over the printed functions, for all nodes. -/
import Derived.Test.YtipjfhakcceebaaCodF
import Derived.Test.YtipjfhakcceebaaCodA
import Derived.Test.YtipjfhakcceebaaQx19
namespace Go.Proofs.Ytipjfhakcceebaa.Cod
open Go.RowKit Go.Proofs.Ytipjfhakcceebaa.Q Go.Proofs.YtipjfhakcceebaaW.PrintWords Go.Proofs.YtipjfhakcceebaaW.PrintLast Go.Proofs.YtipjfhakcceebaaW.PrintMore
theorem Pure.CodecDistinct (a b : S24) (hw : Wf 8 a) (hv : Wf 8 b) : ∃ k, examboardlaw10_CodecDistinct.f k a.f0 a.f1 a.f2 a.f3 a.f4 b.f0 b.f1 b.f2 b.f3 b.f4 = some true := by
  refine ⟨20001, ?_⟩
  have ha := awake_is (k := 20000) (by decide)
  unfold examboardlaw10_CodecDistinct.f
  by_cases h : Fit a
  · by_cases g : Fit b
    · rw [Encode_fit hw (by decide) h, Option.bind_some, Encode_fit hv (by decide) g, Option.bind_some, if_pos rfl]
      simp only [examboardlaw10_CodecDistinct.j0]
      obtain ⟨t, et, ht⟩ := Equal_is 8 a b 20000 h.1 g.1 (by decide)
      obtain ⟨u, eu, hu⟩ := Equal_is 8 a a 20000 h.1 h.1 (by decide)
      rw [if_neg (by decide), et, Option.bind_some, if_pos, eu, Option.bind_some, if_pos (hu.2 rfl), ha, Option.bind_some]
      by_cases e : a = b
      · subst e
        rw [ht.2 rfl]
        simp
      · have ne : (strOfNums (enc 8 a)).toList ≠ (strOfNums (enc 8 b)).toList := fun he => e (enc_inj h.1 g.1 (str_inj (enc_bytes 8 a h.1) (enc_bytes 8 b g.1) he))
        have hf : t = false := by cases t with | false => rfl | true => exact absurd (ht.1 rfl) e
        rw [hf]
        simpa using ne
    · rw [Encode_fit hw (by decide) h, Option.bind_some, Encode_not hv (by decide) g, Option.bind_some, if_pos rfl]
      simp only [examboardlaw10_CodecDistinct.j0]
      rw [if_pos (by decide), ha, Option.bind_some]
  · by_cases g : Fit b
    · rw [Encode_not hw (by decide) h, Option.bind_some, Encode_fit hv (by decide) g, Option.bind_some, if_neg (by decide)]
      simp only [examboardlaw10_CodecDistinct.j0]
      rw [if_pos trivial, ha, Option.bind_some]
    · rw [Encode_not hw (by decide) h, Option.bind_some, Encode_not hv (by decide) g, Option.bind_some, if_neg (by decide)]
      simp only [examboardlaw10_CodecDistinct.j0]
      rw [if_pos trivial, ha, Option.bind_some]
end Go.Proofs.Ytipjfhakcceebaa.Cod
