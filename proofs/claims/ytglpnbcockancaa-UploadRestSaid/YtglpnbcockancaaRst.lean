/- What Rest answers, in the program and in the reference: the rest's packets, or that the journal does not begin with what is there. -/
import Derived.Test.YtglpnbcockancaaQx9
import Derived.Test.YtglpnbcockancaaDiv
namespace Go.Proofs.Ytglpnbcockancaa.Upl
open Go.RowKit Go.Proofs.Ytglpnbcockancaa.Q Go.Proofs.Ytglpnbcockancaa.Dig Go.Proofs.YtglpnbcockancaaW.PrintWords Go.Proofs.YtglpnbcockancaaW.PrintLast Go.Proofs.YtglpnbcockancaaW.PrintMore

theorem bytes_inj : ∀ {a b : List Int}, Bytes a → Bytes b → (a.map fun n => UInt8.ofNat n.toNat) = (b.map fun n => UInt8.ofNat n.toNat) → a = b
  | [], [], _, _, _ => rfl
  | [], y :: b, _, _, h => by simp at h
  | x :: a, [], _, _, h => by simp at h
  | x :: a, y :: b, ha, hb, h => by
    simp only [List.map_cons, List.cons.injEq] at h
    have hx := ha x List.mem_cons_self
    have hy := hb y List.mem_cons_self
    have e : x = y := by
      have := congrArg UInt8.toNat h.1
      simp only [UInt8.toNat_ofNat'] at this
      omega
    rw [e, bytes_inj (fun z hz => ha z (List.mem_cons_of_mem _ hz)) (fun z hz => hb z (List.mem_cons_of_mem _ hz)) h.2]
theorem Equal_is {a b : List Int} (ha : Bytes a) (hb : Bytes b) : bytes_Equal.f a b = some (decide (a = b)) := by
  unfold bytes_Equal.f
  congr 1
  have e : ∀ l : List Int, (strOfNums l).toList = l.map fun n => UInt8.ofNat n.toNat := by
    intro l
    simp only [Go.ByteArray.toList_eq, strOfNums_data]
  rw [e, e]
  by_cases h : a = b
  · subst h; rw [decide_eq_true rfl, beq_self_eq_true]
  · rw [decide_eq_false h]; exact beq_eq_false_iff_ne.2 fun g => h (bytes_inj ha hb g)
theorem bytes_take {l : List Int} (h : Bytes l) (n : Nat) : Bytes (l.take n) := fun x hx => h x (List.mem_of_mem_take hx)
theorem HasPrefix_is {a b : List Int} (ha : Bytes a) (hb : Bytes b) : bytes_HasPrefix.f a b = some (decide (b.length ≤ a.length ∧ a.take b.length = b)) := by
  unfold bytes_HasPrefix.f
  by_cases h : b.length ≤ a.length
  · rw [if_pos (by omega), if_pos (by omega), if_pos (by omega), Int.toNat_natCast, bound (Equal_is (bytes_take ha _) hb)]
    congr 1
    by_cases g : a.take b.length = b
    · rw [decide_eq_true g, decide_eq_true ⟨h, g⟩]
    · rw [decide_eq_false g, decide_eq_false fun x => g x.2]
  · rw [if_neg (by omega), decide_eq_false fun x => h x.1]
/-- what Rest answers -/
def rs (s : Int) (d l : List Int) (m : Int) : List S25 × Int := if d.length ≤ l.length ∧ l.take d.length = d then dv s l d.length m else ([], 11)
theorem Rest_is {k : Nat} (s : Int) {d l : List Int} (q : List S25) (m : Int) (hd : Bytes d) (hl : Bytes l) (hk : 1060000 ≤ k) : upload_Rest.f k s d q l m = some (rs s d l m) := by
  unfold upload_Rest.f rs
  rw [bound (HasPrefix_is hl hd)]
  by_cases h : d.length ≤ l.length ∧ l.take d.length = d
  · rw [if_pos (decide_eq_true h), if_pos h, bound (divide_is s l d.length m (fun _ => by omega) hk)]
  · rw [if_neg (by simp [h]), if_neg h]
end Go.Proofs.Ytglpnbcockancaa.Upl
