/- Words of the kit's printer that this claim uses, cut to these by wip/trim.py. -/
import Derived.Test.YteeggfnailpcpaaDoorRows
import Derived.Test.YteeggfnailpcpaaDoorQx0
import Derived.Test.YteeggfnailpcpaaDoorCodF
import Derived.WalkKit
import Derived.ProofKit
import Derived.OpenShut
import Derived.Lib.SmallJoins
import Derived.Test.YteeggfnailpcpaaDoorPer
import Derived.ChangeSame
import Derived.ChangeVars
import Derived.JoinedOf
import Derived.RowKitTokens
import Derived.LaidLaws
import Derived.LaidHandle
import Derived.Stop.Joined
namespace Go.Proofs.YteeggfnailpcpaaDoor.Opn
open Go.ChangeShapes Go.WideShapes Go.ChangeAt Go.RowKit
open Go.Proofs.YteeggfnailpcpaaDoor.Q Go.Proofs.YteeggfnailpcpaaDoor.Cod Go.Proofs.YteeggfnailpcpaaDoorW.PrintWords Go.Proofs.YteeggfnailpcpaaDoorW.PrintLast Go.Proofs.YteeggfnailpcpaaDoorW.PrintMore
set_option linter.unusedVariables false
set_option maxRecDepth 100000
theorem own : ownKnob Tryd.prog.godebug = none := by kernel_rfl
theorem laidOut : laidOutB Tryd.prog = true := by kernel_rfl
section
variable {H : Type} {enc : TypeId × Value → H} {w : World}
theorem wf_bytes {l : List Int} (h : ∀ x ∈ l, (Lit.int .u8 x).wf = true) : Bytes l := by
  intro x hx
  have h := h x hx
  simp [Lit.wf, IntKind.min, IntKind.max, IntKind.bits, IntKind.signed] at h
  exact ⟨h.1, by omega⟩
/-- A slice of bytes, opened. -/
theorem open_bytes {fuel : Nat} {v : Value} {x : DataW H × List MemPlace} (h : DataW.trod enc Tryd.prog w 0 (fun _ => true) true fuel 24 [v] = some x) :
    ∃ (A : Option Addr) (c : Nat) (l : List Int), v = .slice A l.length c ∧ l.length ≤ c ∧ l.length ≤ maxLen ∧ (Kd.int .u8).C w A l.length l ∧ Bytes l := by
  rcases open_ints Tryd.underlying24 Tryd.underlying5 (by kernel_rfl) h with ⟨hcs, _⟩ | ⟨a, len, cap, zs, hcs, _, hl, hm, hz, _, hcell, hwz⟩
  · obtain rfl : v = .slice none 0 0 := by simpa using hcs
    obtain ⟨l, e, hr, hm, hw, hc⟩ := ReadsInt.ofRowC (k := .u8) (w := w) (a := none) (len := 0) (cap := 0) (zs := []) (.inl ⟨rfl, rfl, rfl, rfl⟩)
    exact ⟨none, 0, l, by rw [← e], hc, hm, Kd.C_of_reads (d := (0 : Int)) (h1 := fun _ => rfl) hr, wf_bytes hw⟩
  · obtain rfl : v = .slice (some a) len cap := by simpa using hcs
    obtain ⟨l, e, hr, hm', hw, hc⟩ := ReadsInt.ofRowC (k := .u8) (w := w) (a := some a) (len := len) (cap := cap) (zs := zs) (.inr ⟨a, rfl, hl, hm, by simpa using hz, hcell, hwz⟩)
    exact ⟨some a, cap, l, by rw [← e], hc, hm', Kd.C_of_reads (d := (0 : Int)) (h1 := fun _ => rfl) hr, wf_bytes hw⟩
theorem int64 {a : Int} (h : (Lit.int .i64 a).wf = true) : -9223372036854775808 ≤ a ∧ a < 9223372036854775808 := by
  simp [Lit.wf, IntKind.min, IntKind.max, IntKind.bits, IntKind.signed] at h
  omega
/-- A node's five cells, opened but for the children. -/
theorem node_cells {fuel : Nat} {cs : List Value} {x : DataW H × List MemPlace} (h : DataW.trod enc Tryd.prog w 0 (fun _ => true) true fuel 43 cs = some x) :
    ∃ (a b c : Int) (s : ByteArray) (v : Value) (n : Nat) (y : DataW H × List MemPlace), fuel = n + 1 ∧ cs = [.int .i64 a, .int .i64 b, .int .i64 c, .string s, v] ∧ (-9223372036854775808 ≤ c ∧ c < 9223372036854775808) ∧
      DataW.trod enc Tryd.prog w 0 (fun _ => true) true n 22 [v] = some y := by
  obtain ⟨xs, n, e, rfl, hl, hlen, hf⟩ := DataW.trod_struct Tryd.underlying43 h
  have hl5 : cs.length = 5 := hl.trans (by kernel_rfl)
  obtain ⟨c0, c1, c2, c3, c4, rfl⟩ : ∃ c0 c1 c2 c3 c4, cs = [c0, c1, c2, c3, c4] := by
    match cs, hl5 with
    | [c0, c1, c2, c3, c4], _ => exact ⟨c0, c1, c2, c3, c4, rfl⟩
  have hx5 : xs.length = 5 := hlen
  obtain ⟨y0, y1, y2, y3, y4, rfl⟩ : ∃ y0 y1 y2 y3 y4, xs = [y0, y1, y2, y3, y4] := by
    match xs, hx5 with
    | [y0, y1, y2, y3, y4], _ => exact ⟨y0, y1, y2, y3, y4, rfl⟩
  have s3 : Tryd.prog.cellsOf 3 = 1 := by kernel_rfl
  have s2 : Tryd.prog.cellsOf 2 = 1 := by kernel_rfl
  have s9 : Tryd.prog.cellsOf 9 = 1 := by kernel_rfl
  have s22 : Tryd.prog.cellsOf 22 = 1 := by kernel_rfl
  have h0 := hf 0 _ rfl
  change DataW.trod enc Tryd.prog w 0 (fun _ => true) true n 3 (([c0, c1, c2, c3, c4].drop 0).take (Tryd.prog.cellsOf 3)) = some y0 at h0
  have h1 := hf 1 _ rfl
  change DataW.trod enc Tryd.prog w 0 (fun _ => true) true n 3 (([c0, c1, c2, c3, c4].drop 1).take (Tryd.prog.cellsOf 3)) = some y1 at h1
  have h2 := hf 2 _ rfl
  change DataW.trod enc Tryd.prog w 0 (fun _ => true) true n 2 (([c0, c1, c2, c3, c4].drop 2).take (Tryd.prog.cellsOf 2)) = some y2 at h2
  have h3 := hf 3 _ rfl
  change DataW.trod enc Tryd.prog w 0 (fun _ => true) true n 9 (([c0, c1, c2, c3, c4].drop 3).take (Tryd.prog.cellsOf 9)) = some y3 at h3
  have h4 := hf 4 _ rfl
  change DataW.trod enc Tryd.prog w 0 (fun _ => true) true n 22 (([c0, c1, c2, c3, c4].drop 4).take (Tryd.prog.cellsOf 22)) = some y4 at h4
  simp only [s3, s2, s9, s22, List.drop_zero, List.drop_succ_cons, List.take_succ_cons, List.take_zero] at h0 h1 h2 h3 h4
  obtain ⟨a0, e0, _, _⟩ := DataW.trod_int Tryd.underlying3 h0
  obtain ⟨a1, e1, _, _⟩ := DataW.trod_int Tryd.underlying3 h1
  obtain ⟨a2, e2, _, w2⟩ := DataW.trod_int Tryd.underlying2 h2
  obtain ⟨a3, e3, _, _⟩ := DataW.trod_string Tryd.underlying9 h3
  simp only [List.cons.injEq, and_true] at e0 e1 e2 e3
  subst e0 e1 e2 e3
  exact ⟨a0, a1, a2, a3, c4, n, y4, e, rfl, int64 w2, h4⟩
/-- A slice of nodes, opened, its elements by what is known of nodes at less fuel. -/
theorem open_kids {F : Nat} (ih : ∀ fuel, fuel < F → ∀ (cs : List Value) (x : DataW H × List MemPlace), DataW.trod enc Tryd.prog w 0 (fun _ => true) true fuel 43 cs = some x → ∃ n : S43, k43.K w n cs ∧ ∀ d, Wf d n)
    {fuel : Nat} (hF : fuel ≤ F) {v : Value} {x : DataW H × List MemPlace} (h : DataW.trod enc Tryd.prog w 0 (fun _ => true) true fuel 22 [v] = some x) :
    ∃ (A : Option Addr) (c : Nat) (l : List S43), v = .slice A l.length c ∧ l.length ≤ c ∧ Kd.C k43 w A l.length l ∧ (∀ x ∈ l, ∀ d, Wf d x) ∧ l.length ≤ maxLen := by
  rcases DataW.trod_slice Tryd.underlying22 h with ⟨hcs, _⟩ | ⟨a, len, cap, elems, rest, n, hn, hcs, _, _, hl, hm, he, hx, _, _⟩
  · obtain rfl : v = .slice none 0 0 := by simpa using hcs
    exact ⟨none, 0, [], rfl, Nat.le_refl _, ⟨rfl, by decide, fun h => absurd h (by decide)⟩, (fun x hx => by cases hx), Nat.zero_le _⟩
  · obtain rfl : v = .slice (some a) len cap := by simpa using hcs
    have s43 : Tryd.prog.cellsOf 43 = 5 := by kernel_rfl
    haveI : Inhabited S43 := ⟨z43⟩
    obtain ⟨f, hf⟩ := Go.Deep.choose_lt (n := len) (p := fun i (p : S43) => ∃ cs, w.cells? 0 (a.add (i * 5)) 5 = some cs ∧ k43.K w p cs ∧ ∀ d, Wf d p) (by
      intro i hi
      have h1 := hx i hi
      rw [s43, List.getElem?_eq_getElem (by omega)] at h1
      obtain ⟨cs, h2, h3⟩ := Option.bind_eq_some_iff.1 h1
      obtain ⟨p, hp, hw⟩ := ih n (by omega) cs _ h3
      exact ⟨p, cs, h2, hp, hw⟩)
    refine ⟨some a, cap, (List.range len).map f, by rw [List.length_map, List.length_range], by rw [List.length_map, List.length_range]; exact hl, ?_, ?_, by rw [List.length_map, List.length_range]; exact Nat.le_trans hl hm⟩
    · rw [List.length_map, List.length_range]
      refine ⟨by rw [List.length_map, List.length_range], by have : maxLen ≤ 9223372036854775807 := by decide
                                                             omega, fun _ => ⟨a, rfl, fun j p hj => ?_⟩⟩
      have hlt : j < len := by
        have := (List.getElem?_eq_some_iff.1 hj).1
        simpa using this
      have hp : p = f j := by
        rw [List.getElem?_map, List.getElem?_range hlt] at hj
        simpa using hj.symm
      obtain ⟨cs, h1, h2, _⟩ := hf j hlt
      obtain ⟨_, h4, h5⟩ := World.cells?_some h1
      subst hp
      refine ⟨cs, h4, h2, fun i u hu => ?_⟩
      have hi : i < 5 := by rw [← h4]; exact (List.getElem?_eq_some_iff.1 hu).1
      have := h5 i hi
      rw [hu, Go.Addr.add_add] at this
      exact this
    · intro x hx d
      obtain ⟨j, hj, rfl⟩ := List.mem_map.1 hx
      exact (hf j (by simpa using hj)).choose_spec.2.2 d
/-- A node, opened at its cells. -/
theorem open_node : ∀ (fuel : Nat) (cs : List Value) (x : DataW H × List MemPlace), DataW.trod enc Tryd.prog w 0 (fun _ => true) true fuel 43 cs = some x → ∃ n : S43, k43.K w n cs ∧ ∀ d, Wf d n := by
  intro fuel
  induction fuel using Nat.strongRecOn with
  | _ fuel ih =>
    intro cs x h
    obtain ⟨a, b, c, s, v, n, y, e, rfl, hc, hv⟩ := node_cells h
    obtain ⟨A, cp, l, rfl, hl, hC, hW, _⟩ := open_kids (F := fuel) ih (by omega) hv
    refine ⟨⟨a, b, c, s, l⟩, k43_mk w ⟨a, b, c, s, l⟩ hl hC, fun d => ?_⟩
    cases d with
    | zero => trivial
    | succ d => exact ⟨hc, fun x hx => hW x hx d⟩
/-- An argument that is a node, opened. -/
theorem open_arg {r : Reach} {b0 : Nat} {v : Value} {d : DataW H} {p : List MemPlace} (hv : Value.okWide Tryd.prog w r b0 43 v) (h : DataW.Trod enc Tryd.prog w 0 (fun _ => true) true 43 v d p) :
    ∃ (n : S43) (A : Option Addr) (c : Nat), v = .agg #[.int .i64 n.f0, .int .i64 n.f1, .int .i64 n.f2, .string n.f3, .slice A n.f4.length c] ∧ n.f4.length ≤ c ∧ Kd.C k43 w A n.f4.length n.f4 ∧ Wf 8 n := by
  obtain ⟨cs, rfl, _⟩ := okWide_struct Tryd.underlying43 hv
  obtain ⟨fuel, hf⟩ := h
  have hf' : DataW.trod enc Tryd.prog w 0 (fun _ => true) true fuel 43 cs.toList = some (d, p) := by simpa [Value.cells] using hf
  obtain ⟨n, hK, hW⟩ := open_node fuel _ _ hf'
  obtain ⟨A, c, e, hl, hC⟩ := k43_open hK
  refine ⟨n, A, c, ?_, hl, hC, hW 8⟩
  cases cs
  simp only at e
  rw [e]
/-- An argument that is a slice of bytes, opened. -/
theorem open_row {r : Reach} {b0 : Nat} {v : Value} {d : DataW H} {p : List MemPlace} (hv : Value.okWide Tryd.prog w r b0 24 v) (h : DataW.Trod enc Tryd.prog w 0 (fun _ => true) true 24 v d p) :
    ∃ (A : Option Addr) (c : Nat) (l : List Int), v = .slice A l.length c ∧ l.length ≤ c ∧ (Kd.int .u8).C w A l.length l ∧ Bytes l ∧ l.length < 9223372036854775808 := by
  obtain ⟨a, len, cap, rfl⟩ := okWide_slice Tryd.underlying24 hv
  obtain ⟨fuel, hf⟩ := h
  have hf' : DataW.trod enc Tryd.prog w 0 (fun _ => true) true fuel 24 [Value.slice a len cap] = some (d, p) := by simpa [Value.cells] using hf
  obtain ⟨A, c, l, e, h1, h2, h3, h4⟩ := open_bytes hf'
  have hm : maxLen < 9223372036854775808 := by decide
  exact ⟨A, c, l, e, h1, h3, h4, by omega⟩
end
abbrev laid : List (String × DataW Unit) := [("errors.errorType", Rows.laid_errors_errorType)]
theorem et : Tryd.prog.globalNamed "errors.errorType" = some 0 := by kernel_rfl
theorem rt : (Tryd.prog.cutTypes.find? (·.1 == "internal/reflectlite.rtype")).map (·.2) = some 102 := by kernel_rfl
theorem oneRow : ((List.range 152).filter fun t => Tryd.prog.rowNamed t [101, 114, 114, 111, 114]) = [55] := by kernel_rfl
theorem size : Tryd.prog.types.size = 152 := by kernel_rfl
theorem glob {W : World} (h : laidMetH Tryd.prog laid W) : GlE W := by
  have h' : laidMet Tryd.prog [] W ∧ handlesMet Tryd.prog laid W := h
  obtain ⟨name, u, ty, e1, e2, e3, e4, e5⟩ := h'.2 _ (List.mem_singleton.2 rfl)
  have en : name = [101, 114, 114, 111, 114] := (Option.some.inj e1).symm
  subst en
  obtain rfl := Option.some.inj (rt.symm.trans e2)
  have hm : ty ∈ (List.range 152).filter fun t => Tryd.prog.rowNamed t [101, 114, 114, 111, 114] := List.mem_filter.2 ⟨List.mem_range.2 (by rw [← size]; exact e3), e4⟩
  rw [oneRow] at hm
  obtain rfl := List.mem_singleton.1 hm
  have hh : typeHandle Tryd.prog 55 = .pointer (some ⟨1, 55, none⟩) := by kernel_rfl
  rw [hh] at e5
  have := World.var?_cell et e5 0
  unfold GlE
  simpa using this
/-- A world that meets the condition: the settled one, the variable's cell laid. -/
noncomputable def laidWorld (os : Os) : World :=
  let w0 := World.holding Tryd.prog os ⟨#[], #[], []⟩
  { w0 with heap := w0.heap.modify 0 fun
      | .cells _ t frozen => .cells #[.iface 102 (.agg #[.pointer (some ⟨1, 55, none⟩)])] t frozen
      | o => o }
theorem laidWorld_met (os : Os) (args : Array Value) : laidMetH Tryd.prog laid ((laidWorld os).forCall (fun _ _ => 0) ⟨#[], args, []⟩).memory :=
  laidMetH_of_parts (laidMet_nil _ _) (by kernel_rfl)
end Go.Proofs.YteeggfnailpcpaaDoor.Opn

