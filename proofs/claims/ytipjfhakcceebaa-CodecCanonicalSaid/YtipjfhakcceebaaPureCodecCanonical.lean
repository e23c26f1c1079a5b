/- CodecCanonical in plain Lean: over the printed functions, for all bytes. -/
import Derived.Test.YtipjfhakcceebaaCodD
import Derived.Test.YtipjfhakcceebaaCodA
import Derived.Test.YtipjfhakcceebaaQx17
namespace Go.Proofs.Ytipjfhakcceebaa.Cod
open Go.RowKit Go.Proofs.Ytipjfhakcceebaa.Q Go.Proofs.YtipjfhakcceebaaW.PrintWords Go.Proofs.YtipjfhakcceebaaW.PrintLast Go.Proofs.YtipjfhakcceebaaW.PrintMore
theorem bytes_of_wf {l : List Int} (h : ∀ x ∈ l, (Lit.int .u8 x).wf = true) : Bytes l := by
  intro x hx
  have h := h x hx
  simp [Lit.wf, IntKind.min, IntKind.max, IntKind.bits, IntKind.signed] at h
  exact ⟨h.1, by omega⟩
theorem _root_.Go.Proofs.Ytipjfhakcceebaa.Pure.CodecCanonical : examboardlaw10_CodecCanonical.Pure := by
  intro B _ hl hw
  have hb := bytes_of_wf hw
  have he := eff_le B
  refine ⟨20000, ?_⟩
  unfold examboardlaw10_CodecCanonical.f
  have ha := awake_is (k := 20000) (by decide)
  have hd := Decode_is (B := B) (k := 20000) (by omega) hb (by decide)
  cases e : pn (fin B) 8 (eff B) with
  | error c =>
    rw [e] at hd
    obtain ⟨hc, hr⟩ := hd
    rw [hr, Option.bind_some, if_neg hc, if_pos rfl, ha, Option.bind_some]
  | ok y =>
    obtain ⟨n, s⟩ := y
    rw [e] at hd
    obtain ⟨hr, hs⟩ := hd
    obtain ⟨e1, ok⟩ := pn_acc (fin B) 8 (eff B) n s (eff_bytes hb) e
    have e2 := congrArg List.length e1
    rw [List.length_append] at e2
    have hp := enc_pos ok
    have hf : Fit n := ⟨ok, by omega⟩
    have hw := Ok_Wf 8 n ok
    have e3 : ((eff B).length : Int) - (s.length : Int) = ((enc 8 n).length : Int) := by omega
    have e4 : B.take (enc 8 n).length = enc 8 n := by
      rw [← eff_pre B (by omega), e1, List.take_append, List.take_of_length_le (Nat.le_refl _), Nat.sub_self, List.take_zero, List.append_nil]
    rw [hr, e3, Option.bind_some, if_pos rfl, if_neg (by simp only; omega), if_neg (by simp only; omega), Valid_fit hw (by decide) hf, Option.bind_some, if_pos rfl, Encode_fit hw (by decide) hf, Option.bind_some, if_pos rfl, if_pos (by simp only; omega), if_pos (by simp only; omega), if_pos (show (strOfNums (enc 8 n)).toList = (strOfNums (B.take ((enc 8 n).length : Int).toNat)).toList from by rw [Int.toNat_natCast, e4]), ha, Option.bind_some]
end Go.Proofs.Ytipjfhakcceebaa.Cod
