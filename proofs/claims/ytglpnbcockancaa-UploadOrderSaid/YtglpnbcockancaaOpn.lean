/- Arguments opened: an array of whole numbers by value, a slice of bytes. -/
import Derived.Test.YtglpnbcockancaaDig
import Derived.WalkKit
import Derived.ProofKit
import Derived.OpenShut
namespace Go.Proofs.Ytglpnbcockancaa.Opn
open Go.ChangeShapes Go.WideShapes Go.ChangeAt Go.RowKit
open Go.Proofs.Ytglpnbcockancaa.Q Go.Proofs.Ytglpnbcockancaa.Dig Go.Proofs.YtglpnbcockancaaW.PrintWords Go.Proofs.YtglpnbcockancaaW.PrintLast Go.Proofs.YtglpnbcockancaaW.PrintMore
section
variable {H : Type} {enc : TypeId × Value → H} {P : Program} {w : World} {base : Nat} {spare : Nat → Bool} {held : Bool}
/-- An array of whole numbers by value, opened. -/
theorem open_int_array {r : Reach} {b0 : Nat} {n : Nat} {t e : TypeId} {k : IntKind} {v : Value} {d : DataW H} {p : List MemPlace} (ht : P.underlying t = some (.array n e)) (he : P.underlying e = some (.int k)) (hce : P.cellsOf e = 1) (hct : P.cellsOf t = n)
    (hv : Value.okWide P w r b0 t v) (h : DataW.Trod enc P w base spare held t v d p) : ∃ l : List Int, l.length = n ∧ v = .agg (l.map (Value.int k)).toArray ∧ (∀ x ∈ l, (Lit.int k x).wf = true) := by
  obtain ⟨cs, rfl, hsz⟩ : ∃ cs, v = .agg cs ∧ cs.size = P.cellsOf t := by
    simp only [Value.okWide, ht] at hv
    obtain ⟨cs, h1, h2, _⟩ := hv
    exact ⟨cs, h1, h2⟩
  obtain ⟨fuel, hf⟩ := h
  obtain ⟨xs, m, _, _, _, hxn, hel⟩ := DataW.trod_array ht hf
  have hcell : ∀ i, (hi : i < n) → ∃ x : Int, cs[i]? = some (.int k x) ∧ (Lit.int k x).wf = true := by
    intro i hi
    have h1 := hel i hi
    rw [hce, Nat.mul_one, List.getElem?_eq_getElem (by omega)] at h1
    obtain ⟨x, h2, _, h3⟩ := DataW.trod_int he h1
    refine ⟨x, ?_, h3⟩
    have h4 : ((Value.agg cs).cells.toList.drop i)[0]? = some (.int k x) := by
      have h5 : (((Value.agg cs).cells.toList.drop i).take 1)[0]? = some (.int k x) := by rw [h2]; rfl
      rwa [List.getElem?_take_of_lt (by omega)] at h5
    rw [List.getElem?_drop, Nat.add_zero] at h4
    simpa [Value.cells] using h4
  have hl : ∀ m, m ≤ n → ∃ l : List Int, l.length = m ∧ (∀ i, i < m → cs[i]? = some (.int k (l.getD i 0))) ∧ ∀ x ∈ l, (Lit.int k x).wf = true := by
    intro m
    induction m with
    | zero => intro _; exact ⟨[], rfl, fun i hi => by omega, fun x hx => by cases hx⟩
    | succ m ih =>
      intro hm
      obtain ⟨l, h1, h2, h3⟩ := ih (by omega)
      obtain ⟨x, h4, h5⟩ := hcell m (by omega)
      refine ⟨l ++ [x], by simp [h1], fun i hi => ?_, fun y hy => ?_⟩
      · by_cases hlt : i < m
        · rw [h2 i hlt, List.getD_eq_getElem?_getD, List.getD_eq_getElem?_getD, List.getElem?_append_left (by omega)]
        · obtain rfl : i = m := by omega
          rw [h4, List.getD_eq_getElem?_getD, List.getElem?_append_right (by omega), h1]
          simp
      · rcases List.mem_append.1 hy with hy | hy
        · exact h3 y hy
        · rw [List.mem_singleton.1 hy]; exact h5
  obtain ⟨l, h1, h2, h3⟩ := hl n (Nat.le_refl _)
  refine ⟨l, h1, ?_, h3⟩
  congr 1
  apply Array.ext_getElem?
  intro i
  by_cases hi : i < n
  · rw [h2 i hi]
    simp [h1, hi]
  · rw [Array.getElem?_eq_none (by omega), Array.getElem?_eq_none (by simp [h1]; omega)]
end
theorem open_two {H : Type} {enc : TypeId × Value → H} {w : World} {base : Nat} {spare : Nat → Bool} {held : Bool} {r : Reach} {b0 : Nat} {v : Value} {d : DataW H} {p : List MemPlace} (hv : Value.okWide Try.prog w r b0 41 v) (h : DataW.Trod enc Try.prog w base spare held 41 v d p) :
    ∃ x y : Int, v = .agg #[.int .u8 x, .int .u8 y] ∧ (0 ≤ x ∧ x < 256) ∧ (0 ≤ y ∧ y < 256) := by
  obtain ⟨l, hl, rfl, hw⟩ := open_int_array Try.underlying41 Try.underlying5 (by kernel_rfl) (by kernel_rfl) hv h
  obtain ⟨x, y, rfl⟩ : ∃ x y : Int, l = [x, y] := by
    match l, hl with
    | [x, y], _ => exact ⟨x, y, rfl⟩
  have hb := bytes_of_wf hw
  exact ⟨x, y, rfl, hb x (by simp), hb y (by simp)⟩
theorem open_bytes {H : Type} {enc : TypeId × Value → H} {w : World} {r : Reach} {b0 : Nat} {v : Value} {d : DataW H} {p : List MemPlace} (hv : Value.okWide Try.prog w r b0 22 v) (h : DataW.Trod enc Try.prog w 0 (fun _ => true) true 22 v d p) :
    ∃ (A : Option Addr) (c : Nat) (l : List Int), v = .slice A l.length c ∧ l.length ≤ c ∧ (Kd.int .u8).C w A l.length l ∧ Bytes l := by
  obtain ⟨A, len, cap, rfl⟩ := okWide_slice Try.underlying22 hv
  obtain ⟨fuel, hf⟩ := h
  rcases open_ints Try.underlying22 Try.underlying5 (by kernel_rfl) hf with ⟨hcs, _⟩ | ⟨x, l, c, zs, hcs, _, hl, hm, hz, _, hcell, hwz⟩
  · simp [Value.cells] at hcs
    obtain ⟨rfl, rfl, rfl⟩ := hcs
    obtain ⟨l, e, hr, hm, hw, hc⟩ := ReadsInt.ofRowC (k := .u8) (w := w) (a := none) (len := 0) (cap := 0) (zs := []) (.inl ⟨rfl, rfl, rfl, rfl⟩)
    exact ⟨none, 0, l, by rw [← e], hc, Kd.C_of_reads (d := (0 : Int)) (h1 := fun _ => rfl) hr, bytes_of_wf hw⟩
  · simp [Value.cells] at hcs
    obtain ⟨rfl, rfl, rfl⟩ := hcs
    obtain ⟨l, e, hr, hm', hw, hc⟩ := ReadsInt.ofRowC (k := .u8) (w := w) (a := some x) (len := len) (cap := cap) (zs := zs) (.inr ⟨x, rfl, hl, hm, by simpa using hz, hcell, hwz⟩)
    exact ⟨some x, cap, l, by rw [← e], hc, Kd.C_of_reads (d := (0 : Int)) (h1 := fun _ => rfl) hr, bytes_of_wf hw⟩
theorem byte_of {x : Int} (h : (Lit.int .u8 x).wf = true) : 0 ≤ x ∧ x < 256 := by
  simp [Lit.wf, IntKind.min, IntKind.max, IntKind.bits, IntKind.signed] at h
  omega
theorem own : ownKnob Try.prog.godebug = none := by kernel_rfl
theorem laidOut : laidOutB Try.prog = true := by kernel_rfl
end Go.Proofs.Ytglpnbcockancaa.Opn
