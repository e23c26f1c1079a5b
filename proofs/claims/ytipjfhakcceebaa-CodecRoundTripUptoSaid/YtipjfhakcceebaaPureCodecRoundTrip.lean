/- CodecRoundTrip in plain Lean: over the printed functions, for every node and every tail of bytes that leaves room. -/
import Derived.Test.YtipjfhakcceebaaCodD
import Derived.Test.YtipjfhakcceebaaCodA
import Derived.Test.YtipjfhakcceebaaQx16
namespace Go.Proofs.Ytipjfhakcceebaa.Cod
open Go.RowKit Go.Proofs.Ytipjfhakcceebaa.Q Go.Proofs.YtipjfhakcceebaaW.PrintWords Go.Proofs.YtipjfhakcceebaaW.PrintLast Go.Proofs.YtipjfhakcceebaaW.PrintMore
theorem Pure.CodecRoundTrip (n : S24) (t : List Int) (hw : Wf 8 n) (ht : Bytes t) (hl : t.length < 140737480000000) : ∃ k, examboardlaw10_CodecRoundTrip.f k n.f0 n.f1 n.f2 n.f3 n.f4 t = some true := by
  refine ⟨20000, ?_⟩
  unfold examboardlaw10_CodecRoundTrip.f
  have ha := awake_is (k := 20000) (by decide)
  by_cases h : Fit n
  · have h2 := h.2
    rw [Encode_fit hw (by decide) h, Option.bind_some, if_pos rfl, Option.bind_some, if_pos (by simp only [List.length_nil]; omega), Option.bind_some, List.nil_append, if_pos (by simp only; omega)]
    have hb : Bytes (enc 8 n ++ t) := bytes_append.2 ⟨enc_bytes 8 n h.1, ht⟩
    have hd := Decode_is (B := enc 8 n ++ t) (k := 20000) (by rw [List.length_append]; omega) hb (by decide)
    have he : ∃ u, eff (enc 8 n ++ t) = enc 8 n ++ u := by
      unfold eff
      split
      · exact ⟨t.take (1048576 - (enc 8 n).length), by rw [List.take_append, List.take_of_length_le h2]⟩
      · exact ⟨t, rfl⟩
    obtain ⟨u, hu⟩ := he
    rw [hu, pn_enc _ 8 n u h.1] at hd
    obtain ⟨e1, _⟩ := hd
    obtain ⟨b, eb, hbt⟩ := Equal_is 8 n n 20000 h.1 h.1 (by decide)
    rw [e1, Option.bind_some, if_pos rfl, if_pos (by rw [List.length_append]; simp only; omega), eb, Option.bind_some, if_pos (hbt.2 rfl), Valid_fit hw (by decide) h, Option.bind_some, if_pos rfl, ha, Option.bind_some]
  · rw [Encode_not hw (by decide) h, Option.bind_some, if_neg (by decide), if_pos rfl, Valid_not hw (by decide) h, Option.bind_some, if_neg (by decide), ha, Option.bind_some]
end Go.Proofs.Ytipjfhakcceebaa.Cod
