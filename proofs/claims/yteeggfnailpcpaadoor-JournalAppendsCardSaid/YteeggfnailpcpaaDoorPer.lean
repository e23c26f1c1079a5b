/- Words of the kit's printer that this claim uses, cut to these by wip/trim.py. -/
import Derived.Test.YteeggfnailpcpaaDoorSq
import Derived.Test.YteeggfnailpcpaaDoorAs
namespace Go.Proofs.YteeggfnailpcpaaDoor.Q
open Go.RowKit Go.Proofs.YteeggfnailpcpaaDoorW.PrintWords Go.Proofs.YteeggfnailpcpaaDoorW.PrintLast Go.Proofs.YteeggfnailpcpaaDoorW.PrintMore
/-- What the row lays: the variable of errors that holds the type of 'error'. -/
def GlE (w : World) : Prop := w.cell? ⟨0, 0, none⟩ = some (.iface 102 (.agg #[.pointer (some ⟨1, 55, none⟩)]))
/-- An error of this program: nil, or a pointer to a block of one number. -/
def PErr (w : World) (v : Value) : Option Int → Prop
  | none => v = .nilIface
  | some c => ∃ g : Nat, v = .iface 65 (.pointer (some ⟨g, 0, none⟩)) ∧ w.heap[g]? = some (.cells #[.int .i64 c] 67 (0, 0))
theorem perr_nil (w : World) : PErr w .nilIface none := rfl
theorem perr_box {w : World} {g : Nat} {c : Int} (h : w.heap[g]? = some (.cells #[.int .i64 c] 67 (0, 0))) : PErr w (.iface 65 (.pointer (some ⟨g, 0, none⟩))) (some c) := ⟨g, rfl, h⟩
theorem gle {w w' : World} (h : GlE w) (hb : Below w.heap.size w w') : GlE w' := (hb.cell (World.block_lt_of_cell? w _ h)).trans h
theorem perr_below {w w' : World} {v : Value} {o : Option Int} (h : PErr w v o) (hb : Below w.heap.size w w') : PErr w' v o := by
  cases o with
  | none => exact h
  | some c => obtain ⟨g, e, hg⟩ := h; exact ⟨g, e, blk_below hg hb⟩
theorem kz {P Q : Prop} (h : P) (f : P → Q := by intro h_; repeat (first | (with_reducible first | exact h_ | apply KeepBut.set_ | apply keep_drewN | apply keep_drew | apply keep_alloc) | exact h_)) : Q := f h
theorem kz1 {P Q G0 : Prop} (h : P) (g0 : G0) (f : P → G0 → Q := by intro h_ g0_; repeat (first | (with_reducible first | exact h_ | apply KeepBut.set_ | apply keep_drewN | apply keep_drew | apply keep_alloc | refine keep_far ?_ g0_ _) | exact h_)) : Q := f h g0
theorem kz2 {P Q G0 G1 : Prop} (h : P) (g0 : G0) (g1 : G1) (f : P → G0 → G1 → Q := by intro h_ g0_ g1_; repeat (first | (with_reducible first | exact h_ | apply KeepBut.set_ | apply keep_drewN | apply keep_drew | apply keep_alloc | refine keep_far ?_ g0_ _ | refine keep_far ?_ g1_ _) | exact h_)) : Q := f h g0 g1
theorem bw {w0 w w1 : World} {g : Nat} {o : Obj} (h : w0.heap[g]? = some o) (hb : Below w.heap.size w w1) (f : w0.heap[g]? = some o → w.heap[g]? = some o := by intro h_; (with_reducible repeat (first | refine blk_drewN ?_ _ | refine blk_drew ?_ | refine blk_alloc ?_ _)); exact h_) : w1.heap[g]? = some o := blk_below (f h) hb
theorem bp {w0 w : World} {g : Nat} {o o' : Obj} (h : w0.heap[g]? = some o) (f : w0.heap[g]? = some o → w.heap[g]? = some o' := by intro h_; (repeat (first | (with_reducible exact h_) | (with_reducible refine blk_drewN ?_ _) | (with_reducible refine blk_drew ?_) | (with_reducible refine blk_alloc ?_ _) | apply blk_put)); all_goals rfl) : w.heap[g]? = some o' := f h
theorem rfz {P : Prop} (h : P := by first | rfl | (simp; done) | (simp [*]; done)) : P := h
theorem nlz {P : Prop} (h : P := by first | exact Kd.R_nil _ _ _ _ _ | exact Kd.N_nil _ _ _ _ _ | exact Kd.V_nil _ _ _ _ _ | exact Kd.Q_nil _ _ _ _ _ | exact Kd.S_nil _ _ _ _ _) : P := h
theorem ew {P : Prop} (h : P := by first | rfl | (simp <;> rfl) | (simp [*] <;> rfl)) : P := h
end Go.Proofs.YteeggfnailpcpaaDoor.Q

