/- CodecCut in plain Lean: over the printed functions, for every node and every place. -/
import Derived.Test.YtipjfhakcceebaaCodD
import Derived.Test.YtipjfhakcceebaaCodA
import Derived.Test.YtipjfhakcceebaaQx18
namespace Go.Proofs.Ytipjfhakcceebaa.Cod
open Go.RowKit Go.Proofs.Ytipjfhakcceebaa.Q Go.Proofs.YtipjfhakcceebaaW.PrintWords Go.Proofs.YtipjfhakcceebaaW.PrintLast Go.Proofs.YtipjfhakcceebaaW.PrintMore
theorem Pure.CodecCut (n : S24) (c : Int) (hw : Wf 8 n) (hc : 0 ≤ c ∧ c < 65536) : ∃ k, examboardlaw10_CodecCut.f k n.f0 n.f1 n.f2 n.f3 n.f4 c = some true := by
  refine ⟨20001, ?_⟩
  have ha := awake_is (k := 20000) (by decide)
  unfold examboardlaw10_CodecCut.f
  by_cases h : Fit n
  · have h2 := h.2
    rw [Encode_fit hw (by decide) h, Option.bind_some, if_pos rfl, w64 (by omega) (by omega)]
    simp only [examboardlaw10_CodecCut.j0]
    by_cases hi : c ≥ ((enc 8 n).length : Int)
    · rw [if_pos (by simpa using hi), ha, Option.bind_some]
    · rw [if_neg (by simpa using hi)]
      have hi' : c.toNat < (enc 8 n).length := by omega
      have hb := enc_bytes 8 n h.1
      have hlen : ((enc 8 n).take c.toNat).length ≤ 1048576 := by rw [List.length_take]; omega
      obtain ⟨q1, q2⟩ := eff_short hlen
      have hd := Decode_is (B := (enc 8 n).take c.toNat) (k := 20000) (by omega) (fun x hx => hb x (List.mem_of_mem_take hx)) (by decide)
      rw [q1, q2, pn_cut h.1 hi'] at hd
      rw [if_pos hc.1, if_pos (by omega), hd.2, Option.bind_some, if_pos rfl, if_pos rfl, ha, Option.bind_some]
  · rw [Encode_not hw (by decide) h, Option.bind_some, if_neg (by decide)]
    simp only [examboardlaw10_CodecCut.j0]
    rw [if_pos trivial, ha, Option.bind_some]
end Go.Proofs.Ytipjfhakcceebaa.Cod
