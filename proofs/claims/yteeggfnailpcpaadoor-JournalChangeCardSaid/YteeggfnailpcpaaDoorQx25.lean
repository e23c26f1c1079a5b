/- Made by wip/myprint.py of this session (it drives the kit's printer): what the calls of the Go functions come to, as plain Lean functions, and the row of a law over them; without conditions. -/
import Derived.Test.YteeggfnailpcpaaDoorQx0
import Derived.Test.YteeggfnailpcpaaDoorQx1
import Derived.Test.YteeggfnailpcpaaDoorQx10
import Derived.Test.YteeggfnailpcpaaDoorQx12
import Derived.Test.YteeggfnailpcpaaDoorQx13
import Derived.Test.YteeggfnailpcpaaDoorQx21
namespace Go.Proofs.YteeggfnailpcpaaDoor.Q
open Go.RowKit Go.Proofs.YteeggfnailpcpaaDoorW.PrintWords Go.Proofs.YteeggfnailpcpaaDoorW.PrintLast Go.Proofs.YteeggfnailpcpaaDoorW.PrintMore
attribute [local go_sem] max2_int min2_int max_two min_two max_three min_three max_four min_four   -- for this text's walks alone
set_option linter.unusedVariables false
set_option linter.unusedSimpArgs false

/-! ### examboardlaw49_JournalChange: function 6 -/
def examboardlaw49_JournalChange.j0 : Nat → Int → List Int → List (S43) → Int → Int → Int → Option (Bool)
 | 0, _, _, _, _, _, _ => none
 | k + 1, x2, x7, x8, x11, x12, x13 => (some (([] : List Int) : List Int)).bind fun y659 => (if y659.length + x7.length < 140737488355328 then ((some (y659 ++ x7 : List Int)).bind fun y662 => (if 0 ≤ x11 then (if x11 < (y662.length : Int) then ((some (y662.set (x11 : Int).toNat x2 : List Int)).bind fun y665 => ((journal_Read.f k y665).bind fun bt666 => (if x11 ≥ (wrap64 (x13 + 4)) then (if 0 ≤ x12 then (if x12 ≤ (x8.length : Int) then ((examboardlaw49_same.f k bt666.1 (x8.take (x12 : Int).toNat)).bind fun t676 => (if t676 = true then (if bt666.2.1 = x13 then (if bt666.2.2 = 12 then ((examboardlaw49_awake.f k).bind fun t677 => (some t677)) else (none)) else (none)) else (none))) else (none)) else (none)) else (if (bt666.1.length : Int) ≤ x12 then (if 0 ≤ x12 then (if x12 ≤ (x8.length : Int) then ((examboardlaw49_same.f k bt666.1 (x8.take (x12 : Int).toNat)).bind fun t683 => (if t683 = true then (if bt666.2.1 = x13 then (if bt666.2.2 = 0 then (none) else ((examboardlaw49_awake.f k).bind fun t684 => (some t684))) else (none)) else (none))) else (none)) else (none)) else (if 0 ≤ x13 then (if x13 < (y662.length : Int) then (if 0 ≤ (wrap64 (x13 + 1)) then (if (wrap64 (x13 + 1)) < (y662.length : Int) then (if 0 ≤ (wrap64 (x13 + 2)) then (if (wrap64 (x13 + 2)) < (y662.length : Int) then (if 0 ≤ (wrap64 (x13 + 3)) then (if (wrap64 (x13 + 3)) < (y662.length : Int) then (if (wrap64 ((wrap64 ((wrap64 (x13 + 4)) + (wrap64 ((wrap64 ((wrap64 ((wrap64 ((wrap64 (rd y665 x13)) * 16777216)) + (wrap64 ((wrap64 (rd y665 (wrap64 (x13 + 1)))) * 65536)))) + (wrap64 ((wrap64 (rd y665 (wrap64 (x13 + 2)))) * 256)))) + (wrap64 (rd y665 (wrap64 (x13 + 3)))))))) + 8)) > (y662.length : Int) then (none) else (if x13 ≤ (y662.length : Int) then ((journal_Last.f k (y665.take (x13 : Int).toNat)).bind fun bt694 => (if x13 ≤ (wrap64 ((wrap64 (x13 + 4)) + (wrap64 ((wrap64 ((wrap64 ((wrap64 ((wrap64 (rd y665 x13)) * 16777216)) + (wrap64 ((wrap64 (rd y665 (wrap64 (x13 + 1)))) * 65536)))) + (wrap64 ((wrap64 (rd y665 (wrap64 (x13 + 2)))) * 256)))) + (wrap64 (rd y665 (wrap64 (x13 + 3)))))))) then (if (wrap64 ((wrap64 (x13 + 4)) + (wrap64 ((wrap64 ((wrap64 ((wrap64 ((wrap64 (rd y665 x13)) * 16777216)) + (wrap64 ((wrap64 (rd y665 (wrap64 (x13 + 1)))) * 65536)))) + (wrap64 ((wrap64 (rd y665 (wrap64 (x13 + 2)))) * 256)))) + (wrap64 (rd y665 (wrap64 (x13 + 3)))))))) ≤ (y662.length : Int) then ((digest_Chain.f k bt694.1 ((y665.take ((wrap64 ((wrap64 (x13 + 4)) + (wrap64 ((wrap64 ((wrap64 ((wrap64 ((wrap64 (rd y665 x13)) * 16777216)) + (wrap64 ((wrap64 (rd y665 (wrap64 (x13 + 1)))) * 65536)))) + (wrap64 ((wrap64 (rd y665 (wrap64 (x13 + 2)))) * 256)))) + (wrap64 (rd y665 (wrap64 (x13 + 3)))))))) : Int).toNat).drop (x13 : Int).toNat)).bind fun t701 => (if bt694.2 = 0 then ((digest_Number.f k 0 t701).bind fun t702 => (if 0 ≤ (wrap64 ((wrap64 (x13 + 4)) + (wrap64 ((wrap64 ((wrap64 ((wrap64 ((wrap64 (rd y665 x13)) * 16777216)) + (wrap64 ((wrap64 (rd y665 (wrap64 (x13 + 1)))) * 65536)))) + (wrap64 ((wrap64 (rd y665 (wrap64 (x13 + 2)))) * 256)))) + (wrap64 (rd y665 (wrap64 (x13 + 3)))))))) then (if (wrap64 ((wrap64 (x13 + 4)) + (wrap64 ((wrap64 ((wrap64 ((wrap64 ((wrap64 (rd y665 x13)) * 16777216)) + (wrap64 ((wrap64 (rd y665 (wrap64 (x13 + 1)))) * 65536)))) + (wrap64 ((wrap64 (rd y665 (wrap64 (x13 + 2)))) * 256)))) + (wrap64 (rd y665 (wrap64 (x13 + 3)))))))) ≤ (wrap64 ((wrap64 ((wrap64 (x13 + 4)) + (wrap64 ((wrap64 ((wrap64 ((wrap64 ((wrap64 (rd y665 x13)) * 16777216)) + (wrap64 ((wrap64 (rd y665 (wrap64 (x13 + 1)))) * 65536)))) + (wrap64 ((wrap64 (rd y665 (wrap64 (x13 + 2)))) * 256)))) + (wrap64 (rd y665 (wrap64 (x13 + 3)))))))) + 8)) then (if (wrap64 ((wrap64 ((wrap64 (x13 + 4)) + (wrap64 ((wrap64 ((wrap64 ((wrap64 ((wrap64 (rd y665 x13)) * 16777216)) + (wrap64 ((wrap64 (rd y665 (wrap64 (x13 + 1)))) * 65536)))) + (wrap64 ((wrap64 (rd y665 (wrap64 (x13 + 2)))) * 256)))) + (wrap64 (rd y665 (wrap64 (x13 + 3)))))))) + 8)) ≤ (y662.length : Int) then ((digest_Add.f k 0 ((y665.take ((wrap64 ((wrap64 ((wrap64 (x13 + 4)) + (wrap64 ((wrap64 ((wrap64 ((wrap64 ((wrap64 (rd y665 x13)) * 16777216)) + (wrap64 ((wrap64 (rd y665 (wrap64 (x13 + 1)))) * 65536)))) + (wrap64 ((wrap64 (rd y665 (wrap64 (x13 + 2)))) * 256)))) + (wrap64 (rd y665 (wrap64 (x13 + 3)))))))) + 8)) : Int).toNat).drop ((wrap64 ((wrap64 (x13 + 4)) + (wrap64 ((wrap64 ((wrap64 ((wrap64 ((wrap64 (rd y665 x13)) * 16777216)) + (wrap64 ((wrap64 (rd y665 (wrap64 (x13 + 1)))) * 65536)))) + (wrap64 ((wrap64 (rd y665 (wrap64 (x13 + 2)))) * 256)))) + (wrap64 (rd y665 (wrap64 (x13 + 3)))))))) : Int).toNat)).bind fun t708 => (if t702 = t708 then ((examboardlaw49_awake.f k).bind fun t709 => (some t709)) else (none))) else (none)) else (none)) else (none))) else (none))) else (none)) else (none))) else (none))) else (none)) else (none)) else (none)) else (none)) else (none)) else (none)) else (none)) else (none)))))) else (none)) else (none))) else (none))
def examboardlaw49_JournalChange.f (k : Nat) (l0 : List (S43)) (a1 : Int) (a2 : Int) : Option (Bool) := (examboardlaw49_written.f k l0).bind fun bt644 => (if bt644.2.2.2 = true then (if (bt644.1.length : Int) = 0 then ((examboardlaw49_awake.f k).bind fun t654 => (some t654)) else (if 0 ≤ (Int.tmod (wrap64 (a1)) (bt644.1.length : Int)) then (if (Int.tmod (wrap64 (a1)) (bt644.1.length : Int)) < (bt644.1.length : Int) then (if (rd bt644.1 (Int.tmod (wrap64 (a1)) (bt644.1.length : Int))) = a2 then ((examboardlaw49_awake.f k).bind fun t656 => (some t656)) else ((examboardlaw49_complete.f k bt644.2.2.1 (Int.tmod (wrap64 (a1)) (bt644.1.length : Int))).bind fun t657 => (if t657 > 0 then (if 0 ≤ (wrap64 (t657 - 1)) then (if (wrap64 (t657 - 1)) < (bt644.2.2.1.length : Int) then (examboardlaw49_JournalChange.j0 k a2 bt644.1 bt644.2.1 (Int.tmod (wrap64 (a1)) (bt644.1.length : Int)) t657 (rd bt644.2.2.1 (wrap64 (t657 - 1)))) else (none)) else (none)) else (examboardlaw49_JournalChange.j0 k a2 bt644.1 bt644.2.1 (Int.tmod (wrap64 (a1)) (bt644.1.length : Int)) t657 0)))) else (none)) else (none))) else (none))
theorem examboardlaw49_JournalChange.mono_l : ∀ k, (∀ y0 y1 y2 y3 y4 y5, LeO (examboardlaw49_JournalChange.j0 k y0 y1 y2 y3 y4 y5) (examboardlaw49_JournalChange.j0 (k + 1) y0 y1 y2 y3 y4 y5))
 | 0 => fun _ _ _ _ _ _ r h => by simp [examboardlaw49_JournalChange.j0] at h
 | k + 1 => by
  have ih0 := examboardlaw49_JournalChange.mono_l k
  ·
   intro y0 y1 y2 y3 y4 y5
   unfold examboardlaw49_JournalChange.j0
   repeat' first
   | (with_reducible exact ih0 _ _ _ _ _ _)
   | (with_reducible exact digest_Add.mono _ _ _)
   | (with_reducible exact digest_Chain.mono _ _ _)
   | (with_reducible exact digest_Number.mono _ _ _)
   | (with_reducible exact examboardlaw49_awake.mono _)
   | (with_reducible exact examboardlaw49_complete.mono _ _ _)
   | (with_reducible exact examboardlaw49_same.mono _ _ _)
   | (with_reducible exact examboardlaw49_written.mono _ _)
   | (with_reducible exact journal_Last.mono _ _)
   | (with_reducible exact journal_Read.mono _ _)
   | (with_reducible exact LeO.refl _)
   | (with_reducible exact LeO.none _)
   | (with_reducible refine LeO.ite ?_ ?_)
   | (with_reducible refine LeO.bind ?_ (fun _ => ?_))
   | exact ih0 _ _ _ _ _ _
   | exact digest_Add.mono _ _ _
   | exact digest_Chain.mono _ _ _
   | exact digest_Number.mono _ _ _
   | exact examboardlaw49_awake.mono _
   | exact examboardlaw49_complete.mono _ _ _
   | exact examboardlaw49_same.mono _ _ _
   | exact examboardlaw49_written.mono _ _
   | exact journal_Last.mono _ _
   | exact journal_Read.mono _ _
   | exact LeO.none _
   | refine LeO.ite ?_ ?_
   | refine LeO.bind ?_ (fun _ => ?_)
theorem examboardlaw49_JournalChange.mono : ∀ a0 a1 a2 k, LeO (examboardlaw49_JournalChange.f k a0 a1 a2) (examboardlaw49_JournalChange.f (k + 1) a0 a1 a2) := by
 intro a0 a1 a2 k
 have ih0 := examboardlaw49_JournalChange.mono_l k
 unfold examboardlaw49_JournalChange.f
 repeat' first
   | (with_reducible exact ih0 _ _ _ _ _ _)
   | (with_reducible exact digest_Add.mono _ _ _)
   | (with_reducible exact digest_Chain.mono _ _ _)
   | (with_reducible exact digest_Number.mono _ _ _)
   | (with_reducible exact examboardlaw49_awake.mono _)
   | (with_reducible exact examboardlaw49_complete.mono _ _ _)
   | (with_reducible exact examboardlaw49_same.mono _ _ _)
   | (with_reducible exact examboardlaw49_written.mono _ _)
   | (with_reducible exact journal_Last.mono _ _)
   | (with_reducible exact journal_Read.mono _ _)
   | (with_reducible exact LeO.refl _)
   | (with_reducible exact LeO.none _)
   | (with_reducible refine LeO.ite ?_ ?_)
   | (with_reducible refine LeO.bind ?_ (fun _ => ?_))
   | exact ih0 _ _ _ _ _ _
   | exact digest_Add.mono _ _ _
   | exact digest_Chain.mono _ _ _
   | exact digest_Number.mono _ _ _
   | exact examboardlaw49_awake.mono _
   | exact examboardlaw49_complete.mono _ _ _
   | exact examboardlaw49_same.mono _ _ _
   | exact examboardlaw49_written.mono _ _
   | exact journal_Last.mono _ _
   | exact journal_Read.mono _ _
   | exact LeO.none _
   | refine LeO.ite ?_ ?_
   | refine LeO.bind ?_ (fun _ => ?_)
def examboardlaw49_JournalChange.T20 : Bool × List (List Nat × List Nat) := (true, [([], []), ([], []), ([0, 1], [0, 1]), ([2], [2]), ([3], [3]), ([4], [4]), ([], []), ([], []), ([7], [7]), ([6, 8], [6, 8]), ([9], [9]), ([10], [10]), ([11], [11]), ([5, 12], [5, 12]), ([], []), ([], []), ([15], [15]), ([14, 16], [14, 16]), ([17], [17]), ([18], [18]), ([19], [19]), ([13, 20], [13, 20]), ([], []), ([], []), ([23], [23]), ([22, 24], [22, 24]), ([25], [25]), ([26], [26]), ([21, 27], [21, 27]), ([28, 0, 1, 2, 3, 4, 5, 6, 7, 8, 9, 10, 11, 12, 13, 14, 15, 16, 17, 18, 19, 20, 21, 22, 23, 24, 25, 26, 27, 28], [28])])
def examboardlaw49_JournalChange.B20 : List Nat := [0, 0, 3, 7, 15, 31, 0, 0, 128, 448, 960, 1984, 4032, 8191, 0, 0, 32768, 114688, 245760, 507904, 1032192, 2097151, 0, 0, 8388608, 29360128, 62914560, 130023424, 268435455, 536870911]
theorem examboardlaw49_JournalChange.tab20 : rtab .any (opsOf Tryd.f6 20) = examboardlaw49_JournalChange.T20 := by kernel_rfl
theorem examboardlaw49_JournalChange.bits20 : waitsOk examboardlaw49_JournalChange.T20.2 examboardlaw49_JournalChange.B20 = true := by kernel_rfl
def examboardlaw49_JournalChange.T26 : Bool × List (List Nat × List Nat) := (true, [([], []), ([0], [0]), ([1], [1]), ([2], [2]), ([3, 2, 2], [2, 3]), ([2], [2]), ([2], [2]), ([2], [2]), ([7, 2], [2, 7]), ([5, 6, 8, 2], [2, 5, 6, 8]), ([9, 4, 2], [2, 9]), ([4, 10, 2], [2, 4, 10]), ([2, 11], [2, 11]), ([12, 10], [12]), ([13, 13], [13]), ([13, 14], [13, 14]), ([15, 14, 0, 1, 2, 3, 4, 5, 6, 7, 8, 9, 10, 11, 12, 13, 14, 15], [15])])
def examboardlaw49_JournalChange.B26 : List Nat := [0, 1, 3, 7, 15, 7, 7, 7, 135, 487, 1023, 2047, 4095, 8191, 16383, 32767, 65535]
theorem examboardlaw49_JournalChange.tab26 : rtab .any (opsOf Tryd.f6 26) = examboardlaw49_JournalChange.T26 := by kernel_rfl
theorem examboardlaw49_JournalChange.bits26 : waitsOk examboardlaw49_JournalChange.T26.2 examboardlaw49_JournalChange.B26 = true := by kernel_rfl
set_option maxHeartbeats 8000000 in
set_option maxRecDepth 100000 in
theorem examboardlaw49_JournalChange.calls (k : Nat) (A0 : Option Addr) (c0 : Nat) (l0 : List (S43)) (a1 : Int) (a2 : Int) (r : Bool) (w : World) (hG : GlE w) (hr0 : Kd.C k43 w A0 l0.length l0) (hc0 : l0.length ≤ c0) (h : examboardlaw49_JournalChange.f k l0 a1 a2 = some r) :
  Calls Tryd.prog 6 #[.slice A0 l0.length c0, .int .u16 a1, .int .u8 a2] w fun e w' => e = .returned (.bool r) ∧ Below w.heap.size w w' := by
 have HR0 := am hr0
 have HC0 := am hc0
 clear hr0 hc0
 have HG_ := am hG
 clear hG
 have HB := am (Below.refl w.heap.size w)
 have H : ((examboardlaw49_written.f k l0).bind fun bt644 => (if bt644.2.2.2 = true then (if (bt644.1.length : Int) = 0 then ((examboardlaw49_awake.f k).bind fun t654 => (some t654)) else (if 0 ≤ (Int.tmod (wrap64 (a1)) (bt644.1.length : Int)) then (if (Int.tmod (wrap64 (a1)) (bt644.1.length : Int)) < (bt644.1.length : Int) then (if (rd bt644.1 (Int.tmod (wrap64 (a1)) (bt644.1.length : Int))) = a2 then ((examboardlaw49_awake.f k).bind fun t656 => (some t656)) else ((examboardlaw49_complete.f k bt644.2.2.1 (Int.tmod (wrap64 (a1)) (bt644.1.length : Int))).bind fun t657 => (if t657 > 0 then (if 0 ≤ (wrap64 (t657 - 1)) then (if (wrap64 (t657 - 1)) < (bt644.2.2.1.length : Int) then (examboardlaw49_JournalChange.j0 k a2 bt644.1 bt644.2.1 (Int.tmod (wrap64 (a1)) (bt644.1.length : Int)) t657 (rd bt644.2.2.1 (wrap64 (t657 - 1)))) else (none)) else (none)) else (examboardlaw49_JournalChange.j0 k a2 bt644.1 bt644.2.1 (Int.tmod (wrap64 (a1)) (bt644.1.length : Int)) t657 0)))) else (none)) else (none))) else (none))) = some r := h
 clear h
 replace H := Option.bind_eq_some_iff.mp H
 obtain ⟨⟨t644, t647, t650, t653⟩, A40, H⟩ := H
 replace H : (if t653 = true then (if (t644.length : Int) = 0 then ((examboardlaw49_awake.f k).bind fun t654 => (some t654)) else (if 0 ≤ (Int.tmod (wrap64 (a1)) (t644.length : Int)) then (if (Int.tmod (wrap64 (a1)) (t644.length : Int)) < (t644.length : Int) then (if (rd t644 (Int.tmod (wrap64 (a1)) (t644.length : Int))) = a2 then ((examboardlaw49_awake.f k).bind fun t656 => (some t656)) else ((examboardlaw49_complete.f k t650 (Int.tmod (wrap64 (a1)) (t644.length : Int))).bind fun t657 => (if t657 > 0 then (if 0 ≤ (wrap64 (t657 - 1)) then (if (wrap64 (t657 - 1)) < (t650.length : Int) then (examboardlaw49_JournalChange.j0 k a2 t644 t647 (Int.tmod (wrap64 (a1)) (t644.length : Int)) t657 (rd t650 (wrap64 (t657 - 1)))) else (none)) else (none)) else (examboardlaw49_JournalChange.j0 k a2 t644 t647 (Int.tmod (wrap64 (a1)) (t644.length : Int)) t657 0)))) else (none)) else (none))) else (none)) = some r := H
 have A4 := am A40
 clear A40
 by_cases c5 : t653 = true
 ·
  subst c5
  have H1 : (if (t644.length : Int) = 0 then ((examboardlaw49_awake.f k).bind fun t654 => (some t654)) else (if 0 ≤ (Int.tmod (wrap64 (a1)) (t644.length : Int)) then (if (Int.tmod (wrap64 (a1)) (t644.length : Int)) < (t644.length : Int) then (if (rd t644 (Int.tmod (wrap64 (a1)) (t644.length : Int))) = a2 then ((examboardlaw49_awake.f k).bind fun t656 => (some t656)) else ((examboardlaw49_complete.f k t650 (Int.tmod (wrap64 (a1)) (t644.length : Int))).bind fun t657 => (if t657 > 0 then (if 0 ≤ (wrap64 (t657 - 1)) then (if (wrap64 (t657 - 1)) < (t650.length : Int) then (examboardlaw49_JournalChange.j0 k a2 t644 t647 (Int.tmod (wrap64 (a1)) (t644.length : Int)) t657 (rd t650 (wrap64 (t657 - 1)))) else (none)) else (none)) else (examboardlaw49_JournalChange.j0 k a2 t644 t647 (Int.tmod (wrap64 (a1)) (t644.length : Int)) t657 0)))) else (none)) else (none))) = some r := by rw [if_pos rfl] at H; exact H
  clear H
  have H := H1
  clear H1
  by_cases c6 : (t644.length : Int) = 0
  ·
   rw [if_pos c6] at H
   have c6b0 : ((t644.length : Int) == 0) = true := beq_iff_eq.mpr c6
   have c6b1 : ((t644.length : Int) != 0) = false := bne_eq_false_iff_eq.mpr c6
   clear c6
   replace H := Option.bind_eq_some_iff.mp H
   obtain ⟨t654, A70, H⟩ := H
   replace H : (some t654) = some r := H
   have A7 := am A70
   clear A70
   obtain rfl := Option.some.inj H
   go_enter Tryd.func6, Tryd.ntmps6
   go_wp2_with (first | ((with_reducible refine gate_callee (f := 9) rfl ?_); refine goesL_ (some 25) rfl rfl Tryd.func9 (by kernel_rfl) rfl #[.slice A0 l0.length c0] rfl lz ?_; (with_reducible refine (examboardlaw49_written.calls k (fun k_ => k_ < w.heap.size) _ _ l0 t644 t647 t650 true _ ?sideG ?side1 A4.out).mono ?_); (case sideG => exact gle HG_.out (hz HB.out)); (case side1 => exact Kd.V_mk HC0.out (Kd.F_below (Kd.C_F k43_heap HR0.out) (hz HB.out))); rintro e w8 ⟨v645, v648, v651, rfl, ho0, ho1, ho2, hb⟩; refine ⟨_, rfl, ?_⟩; have HO646 := am (Kd.R_lower (Kd.R_mono (ok' := fun k_ => True) ho0 (fun _ hk_ => trivial)) (below_size (hz HB.out))); have HO649 := am (Kd.N_lower (Kd.N_mono (ok' := fun k_ => some k_ ≠ (v645 : Value).ownBlock ∧ some k_ ≠ (v651 : Value).ownBlock) ho1 (fun k_ hk_ => ⟨hk_.2.1, hk_.2.2⟩)) (below_size (hz HB.out))); have HO652 := am (Kd.R_lower (Kd.R_mono (ok' := fun k_ => True) ho2 (fun _ hk_ => trivial)) (below_size (hz HB.out))); replace HB := am (below_step (hz HB.out) hb); (try clear hb); (try clear hk); (try clear hi); (try clear ho0); (try clear ho1); (try clear ho2); obtain ⟨Ao9, co9, eo9⟩ := Kd.R_slice HO646.out; subst eo9) | ((with_reducible refine gate_callee (f := 16) rfl ?_); refine goesL_ (some 35) rfl rfl Tryd.func16 (by kernel_rfl) rfl #[] rfl lz ?_; (with_reducible refine (examboardlaw49_awake.calls k  t654 _ ?sideG A7.out).mono ?_); (case sideG => exact gle HG_.out (hz HB.out)); rintro e w10 ⟨rfl, hb⟩; refine ⟨_, rfl, ?_⟩; replace HO646 := am (Kd.R_below (rz HO646.out) hb); replace HO649 := am (Kd.N_below (nz HO649.out) hb); replace HO652 := am (Kd.R_below (rz HO652.out) hb); replace HB := am (below_step (hz HB.out) hb); (try clear hb); (try clear hk); (try clear hi)))
   go_ret
   exact ⟨ez, hz HB.out⟩
  ·
   rw [if_neg c6] at H
   have c6b0 : ((t644.length : Int) == 0) = false := beq_eq_false_iff_ne.mpr c6
   have c6b1 : ((t644.length : Int) != 0) = true := bne_iff_ne.mpr c6
   have c6b2 : ¬ (t644 = []) := fun h_ => c6 (by rw [h_]; rfl)
   obtain ⟨ji11, hji11⟩ : ∃ j_ : Int, (Int.tmod (wrap64 (a1)) (t644.length : Int)) = j_ := ⟨_, rfl⟩
   replace H : (if 0 ≤ (ji11) then (if (ji11) < (t644.length : Int) then (if (rd t644 (ji11)) = a2 then ((examboardlaw49_awake.f k).bind fun t656 => (some t656)) else ((examboardlaw49_complete.f k t650 (ji11)).bind fun t657 => (if t657 > 0 then (if 0 ≤ (wrap64 (t657 - 1)) then (if (wrap64 (t657 - 1)) < (t650.length : Int) then (examboardlaw49_JournalChange.j0 k a2 t644 t647 ji11 t657 (rd t650 (wrap64 (t657 - 1)))) else (none)) else (none)) else (examboardlaw49_JournalChange.j0 k a2 t644 t647 ji11 t657 0)))) else (none)) else (none)) = some r := by first | (rw [hji11] at H; exact H) | (simp only [hji11] at H ⊢; exact H)
   (try rw [hji11] at A4)
   replace H := it_ H
   obtain ⟨c12, H⟩ := H
   have c12b0 : decide (0 ≤ (ji11)) = true := decide_eq_true c12
   clear c12
   replace H := it_ H
   obtain ⟨c13, H⟩ := H
   have c13b0 : decide ((ji11) < (t644.length : Int)) = true := decide_eq_true c13
   clear c13
   by_cases c14 : (rd t644 (ji11)) = a2
   ·
    rw [if_pos c14] at H
    have c14b0 : ((rd t644 (ji11)) == a2) = true := beq_iff_eq.mpr c14
    have c14b1 : ((rd t644 (ji11)) != a2) = false := bne_eq_false_iff_eq.mpr c14
    clear c14
    replace H := Option.bind_eq_some_iff.mp H
    obtain ⟨t656, A150, H⟩ := H
    replace H : (some t656) = some r := H
    have A15 := am A150
    clear A150
    obtain rfl := Option.some.inj H
    go_enter Tryd.func6, Tryd.ntmps6
    go_wp2_with (first | ((with_reducible refine gate_callee (f := 9) rfl ?_); refine goesL_ (some 25) rfl rfl Tryd.func9 (by kernel_rfl) rfl #[.slice A0 l0.length c0] rfl lz ?_; (with_reducible refine (examboardlaw49_written.calls k (fun k_ => k_ < w.heap.size) _ _ l0 t644 t647 t650 true _ ?sideG ?side1 A4.out).mono ?_); (case sideG => exact gle HG_.out (hz HB.out)); (case side1 => exact Kd.V_mk HC0.out (Kd.F_below (Kd.C_F k43_heap HR0.out) (hz HB.out))); rintro e w16 ⟨v645, v648, v651, rfl, ho0, ho1, ho2, hb⟩; refine ⟨_, rfl, ?_⟩; have HO646 := am (Kd.R_lower (Kd.R_mono (ok' := fun k_ => True) ho0 (fun _ hk_ => trivial)) (below_size (hz HB.out))); have HO649 := am (Kd.N_lower (Kd.N_mono (ok' := fun k_ => some k_ ≠ (v645 : Value).ownBlock ∧ some k_ ≠ (v651 : Value).ownBlock) ho1 (fun k_ hk_ => ⟨hk_.2.1, hk_.2.2⟩)) (below_size (hz HB.out))); have HO652 := am (Kd.R_lower (Kd.R_mono (ok' := fun k_ => True) ho2 (fun _ hk_ => trivial)) (below_size (hz HB.out))); replace HB := am (below_step (hz HB.out) hb); (try clear hb); (try clear hk); (try clear hi); (try clear ho0); (try clear ho1); (try clear ho2); obtain ⟨Ao17, co17, eo17⟩ := Kd.R_slice HO646.out; subst eo17; have p655 : 0 ≤ ((ji11) : Int) := of_decide_eq_true az; have q655 : (ji11) < (t644.length : Int) := of_decide_eq_true az; obtain ⟨ad655, e655, hx655_0⟩ := Kd.at_int (Kd.R_reads' HO646.out).2.2 (ji11) p655 q655; cases e655; replace p655 := eq_true p655; replace q655 := eq_true q655) | ((with_reducible refine gate_callee (f := 16) rfl ?_); refine goesL_ (some 47) rfl rfl Tryd.func16 (by kernel_rfl) rfl #[] rfl lz ?_; (with_reducible refine (examboardlaw49_awake.calls k  t656 _ ?sideG A15.out).mono ?_); (case sideG => exact gle HG_.out (hz HB.out)); rintro e w18 ⟨rfl, hb⟩; refine ⟨_, rfl, ?_⟩; replace HO646 := am (Kd.R_below (rz HO646.out) hb); replace HO649 := am (Kd.N_below (nz HO649.out) hb); replace HO652 := am (Kd.R_below (rz HO652.out) hb); replace HB := am (below_step (hz HB.out) hb); (try clear hb); (try clear hk); (try clear hi)))
    go_ret
    exact ⟨by first | rfl | (simp [errW_none, errW_some] <;> rfl) | (simp only [← hji11]; first | rfl | (simp [errW_none, errW_some] <;> rfl)) | (simp [*, errW_none, errW_some] <;> rfl), hz HB.out⟩
   ·
    rw [if_neg c14] at H
    have c14b0 : ((rd t644 (ji11)) == a2) = false := beq_eq_false_iff_ne.mpr c14
    have c14b1 : ((rd t644 (ji11)) != a2) = true := bne_iff_ne.mpr c14
    replace H := Option.bind_eq_some_iff.mp H
    obtain ⟨t657, A190, H⟩ := H
    replace H : (if t657 > 0 then (if 0 ≤ (wrap64 (t657 - 1)) then (if (wrap64 (t657 - 1)) < (t650.length : Int) then (examboardlaw49_JournalChange.j0 k a2 t644 t647 ji11 t657 (rd t650 (wrap64 (t657 - 1)))) else (none)) else (none)) else (examboardlaw49_JournalChange.j0 k a2 t644 t647 ji11 t657 0)) = some r := H
    have A19 := am A190
    clear A190
    have HC20 := am H
    clear H
    go_enter Tryd.func6, Tryd.ntmps6
    go_upto_if 52 with (first | ((with_reducible refine gate_callee (f := 9) rfl ?_); refine goesL_ (some 25) rfl rfl Tryd.func9 (by kernel_rfl) rfl #[.slice A0 l0.length c0] rfl lz ?_; (with_reducible refine (examboardlaw49_written.calls k (fun k_ => k_ < w.heap.size) _ _ l0 t644 t647 t650 true _ ?sideG ?side1 A4.out).mono ?_); (case sideG => exact gle HG_.out (hz HB.out)); (case side1 => exact Kd.V_mk HC0.out (Kd.F_below (Kd.C_F k43_heap HR0.out) (hz HB.out))); rintro e w21 ⟨v645, v648, v651, rfl, ho0, ho1, ho2, hb⟩; refine ⟨_, rfl, ?_⟩; have HO646 := am (Kd.R_lower (Kd.R_mono (ok' := fun k_ => True) ho0 (fun _ hk_ => trivial)) (below_size (hz HB.out))); have HO649 := am (Kd.N_lower (Kd.N_mono (ok' := fun k_ => some k_ ≠ (v645 : Value).ownBlock ∧ some k_ ≠ (v651 : Value).ownBlock) ho1 (fun k_ hk_ => ⟨hk_.2.1, hk_.2.2⟩)) (below_size (hz HB.out))); have HO652 := am (Kd.R_lower (Kd.R_mono (ok' := fun k_ => True) ho2 (fun _ hk_ => trivial)) (below_size (hz HB.out))); replace HB := am (below_step (hz HB.out) hb); (try clear hb); (try clear hk); (try clear hi); (try clear ho0); (try clear ho1); (try clear ho2); obtain ⟨Ao22, co22, eo22⟩ := Kd.R_slice HO646.out; subst eo22; have p655 : 0 ≤ ((ji11) : Int) := of_decide_eq_true az; have q655 : (ji11) < (t644.length : Int) := of_decide_eq_true az; obtain ⟨ad655, e655, hx655_0⟩ := Kd.at_int (Kd.R_reads' HO646.out).2.2 (ji11) p655 q655; cases e655; replace p655 := eq_true p655; replace q655 := eq_true q655; obtain ⟨Ao23, co23, eo23⟩ := Kd.R_slice HO652.out; subst eo23) | ((with_reducible refine gate_callee (f := 10) rfl ?_); refine goesL_ (some 50) rfl rfl Tryd.func10 (by kernel_rfl) rfl #[.slice Ao23 t650.length co23, .int .i64 ji11] rfl (by (try simp only [List.map_toArray, List.map_cons, List.map_nil]); first | done | (simp only [hji11]; rfl) | rfl | (simp only [List.length_drop, List.length_take]; rfl)) ?_; (with_reducible refine (examboardlaw49_complete.calls k _ _ t650 ji11 t657 _ ?side1 ?side2 A19.out).mono ?_); (case side1 => repeat (first | exact (Kd.R_reads' HO652.out).2.2 | (with_reducible refine Kd.C_alloc ?_ _) | (with_reducible refine Kd.C_drewN ?_ _) | (with_reducible refine Kd.C_drew ?_))); (case side2 => exact (Kd.R_reads' HO652.out).2.1); rintro e w' ⟨rfl, ⟨nd, rfl⟩⟩; refine ⟨_, rfl, ?_⟩))
    (try simp only [Act.put, List.setIfInBounds_toArray, List.set_cons_zero, List.set_cons_succ])
    go_cut [13] (fun v13 wc => ∃ (kq : Nat) (x13_19 : Int), v13 = .int .i64 x13_19 ∧ Aside0 (examboardlaw49_JournalChange.j0 kq a2 t644 t647 ji11 t657 x13_19 = some r) ∧ Aside0 (kq ≤ k) ∧ Aside0 (Kd.R (Kd.int .u8) 5 wc w.heap.size (fun _ => True) (.slice (some ad655) t644.length co22) t644) ∧ Aside0 (Kd.N k43 43 wc w.heap.size (fun k_ => some k_ ≠ ((.slice (some ad655) t644.length co22) : Value).ownBlock) v648 t647) ∧ Aside0 (Below w.heap.size w wc))
    case first =>
     have H := HC20.out
     clear HC20
     by_cases c24 : t657 > 0
     ·
      rw [if_pos c24] at H
      have c24b0 : decide (0 < t657) = true := decide_eq_true c24
      clear c24
      (first | rw [c24b0] | (simp only [i64_w, i32_w]; rw [c24b0]) | skip)
      obtain ⟨ji25, hji25⟩ : ∃ j_ : Int, (wrap64 (t657 - 1)) = j_ := ⟨_, rfl⟩
      replace H : (if 0 ≤ (ji25) then (if (ji25) < (t650.length : Int) then (examboardlaw49_JournalChange.j0 k a2 t644 t647 ji11 t657 (rd t650 (ji25))) else (none)) else (none)) = some r := by first | (rw [hji25] at H; exact H) | (simp only [hji25] at H ⊢; exact H)
      have hji25w : (IntKind.i64.wrap (t657 - 1)) = ji25 := (i64_w _).trans hji25
      replace H := it_ H
      obtain ⟨c26, H⟩ := H
      have c26b0 : decide (0 ≤ (ji25)) = true := decide_eq_true c26
      clear c26
      replace H := it_ H
      obtain ⟨c27, H⟩ := H
      have c27b0 : decide ((ji25) < (t650.length : Int)) = true := decide_eq_true c27
      clear c27
      have H' := am H
      clear H
      have p658 : 0 ≤ ((ji25) : Int) := of_decide_eq_true az
      have q658 : (ji25) < (t650.length : Int) := of_decide_eq_true az
      obtain ⟨ad658, e658, hx658_0⟩ := Kd.at_int (Kd.R_reads' HO652.out).2.2 (ji25) p658 q658
      cases e658
      replace p658 := eq_true p658
      replace q658 := eq_true q658
      go_wp2
      go_meet
      case rel => exact ⟨_, (rd t650 (ji25)), (by first | rfl | (simp; done) | (simp only [← hji25] <;> (first | rfl | simp)) | (simp [*]; done)), H', ⟨by first | omega | exact Nat.le_refl _⟩, ⟨by (with_reducible repeat (first | apply Kd.R_alloc | apply Kd.R_drewN | apply Kd.R_drew)); exact HO646.out⟩, ⟨by (with_reducible repeat (first | apply Kd.N_alloc | apply Kd.N_drewN | apply Kd.N_drew)); exact Kd.N_mono HO649.out (fun _ hk => hk.1)⟩, ⟨hz HB.out⟩⟩
     ·
      rw [if_neg c24] at H
      have c24b0 : decide (0 < t657) = false := decide_eq_false c24
      clear c24
      (first | rw [c24b0] | (simp only [i64_w, i32_w]; rw [c24b0]) | skip)
      have H' := am H
      clear H
      go_wp2
      go_meet
      case rel => exact ⟨_, (0), (by first | rfl | (simp; done) | (simp [*]; done)), H', ⟨by first | omega | exact Nat.le_refl _⟩, ⟨by (with_reducible repeat (first | apply Kd.R_alloc | apply Kd.R_drewN | apply Kd.R_drew)); exact HO646.out⟩, ⟨by (with_reducible repeat (first | apply Kd.N_alloc | apply Kd.N_drewN | apply Kd.N_drew)); exact Kd.N_mono HO649.out (fun _ hk => hk.1)⟩, ⟨hz HB.out⟩⟩
    case rest =>
     clear HC20
     try clear c1
     try clear c2
     try clear p2
     try clear c5
     try clear c6
     try clear c6b0
     try clear c6b1
     try clear c6b2
     try clear p6
     try clear q6
     try clear hx6
     try clear c9
     try clear c10
     try clear c12
     try clear c12b0
     try clear c13
     try clear c13b0
     try clear c14
     try clear c14b0
     try clear c14b1
     try clear c16
     try clear c24
     try clear c24b0
     try clear c26
     try clear c26b0
     try clear c27
     try clear c27b0
     try clear hx655_0
     try clear hx658_0
     try clear p655
     try clear p658
     try clear q655
     try clear q658
     obtain ⟨kq, x13_19, rfl, HA, HJ19, HO_7, HO_8, HB⟩ := hcut
     cases kq with
     | zero => exact absurd HA.out (by simp [examboardlaw49_JournalChange.j0])
     | succ kj19 =>
      have H := HA.out
      clear HA
      simp only [examboardlaw49_JournalChange.j0] at H
      obtain ⟨y659, hy659⟩ : ∃ y_ : List Int, y_ = (([] : List Int)) := ⟨_, rfl⟩
      replace H : (if y659.length + t644.length < 140737488355328 then ((some (y659 ++ t644 : List Int)).bind fun y662 => (if 0 ≤ ji11 then (if ji11 < (y662.length : Int) then ((some (y662.set (ji11 : Int).toNat a2 : List Int)).bind fun y665 => ((journal_Read.f kj19 y665).bind fun bt666 => (if ji11 ≥ (wrap64 (x13_19 + 4)) then (if 0 ≤ t657 then (if t657 ≤ (t647.length : Int) then ((examboardlaw49_same.f kj19 bt666.1 (t647.take (t657 : Int).toNat)).bind fun t676 => (if t676 = true then (if bt666.2.1 = x13_19 then (if bt666.2.2 = 12 then ((examboardlaw49_awake.f kj19).bind fun t677 => (some t677)) else (none)) else (none)) else (none))) else (none)) else (none)) else (if (bt666.1.length : Int) ≤ t657 then (if 0 ≤ t657 then (if t657 ≤ (t647.length : Int) then ((examboardlaw49_same.f kj19 bt666.1 (t647.take (t657 : Int).toNat)).bind fun t683 => (if t683 = true then (if bt666.2.1 = x13_19 then (if bt666.2.2 = 0 then (none) else ((examboardlaw49_awake.f kj19).bind fun t684 => (some t684))) else (none)) else (none))) else (none)) else (none)) else (if 0 ≤ x13_19 then (if x13_19 < (y662.length : Int) then (if 0 ≤ (wrap64 (x13_19 + 1)) then (if (wrap64 (x13_19 + 1)) < (y662.length : Int) then (if 0 ≤ (wrap64 (x13_19 + 2)) then (if (wrap64 (x13_19 + 2)) < (y662.length : Int) then (if 0 ≤ (wrap64 (x13_19 + 3)) then (if (wrap64 (x13_19 + 3)) < (y662.length : Int) then (if (wrap64 ((wrap64 ((wrap64 (x13_19 + 4)) + (wrap64 ((wrap64 ((wrap64 ((wrap64 ((wrap64 (rd y665 x13_19)) * 16777216)) + (wrap64 ((wrap64 (rd y665 (wrap64 (x13_19 + 1)))) * 65536)))) + (wrap64 ((wrap64 (rd y665 (wrap64 (x13_19 + 2)))) * 256)))) + (wrap64 (rd y665 (wrap64 (x13_19 + 3)))))))) + 8)) > (y662.length : Int) then (none) else (if x13_19 ≤ (y662.length : Int) then ((journal_Last.f kj19 (y665.take (x13_19 : Int).toNat)).bind fun bt694 => (if x13_19 ≤ (wrap64 ((wrap64 (x13_19 + 4)) + (wrap64 ((wrap64 ((wrap64 ((wrap64 ((wrap64 (rd y665 x13_19)) * 16777216)) + (wrap64 ((wrap64 (rd y665 (wrap64 (x13_19 + 1)))) * 65536)))) + (wrap64 ((wrap64 (rd y665 (wrap64 (x13_19 + 2)))) * 256)))) + (wrap64 (rd y665 (wrap64 (x13_19 + 3)))))))) then (if (wrap64 ((wrap64 (x13_19 + 4)) + (wrap64 ((wrap64 ((wrap64 ((wrap64 ((wrap64 (rd y665 x13_19)) * 16777216)) + (wrap64 ((wrap64 (rd y665 (wrap64 (x13_19 + 1)))) * 65536)))) + (wrap64 ((wrap64 (rd y665 (wrap64 (x13_19 + 2)))) * 256)))) + (wrap64 (rd y665 (wrap64 (x13_19 + 3)))))))) ≤ (y662.length : Int) then ((digest_Chain.f kj19 bt694.1 ((y665.take ((wrap64 ((wrap64 (x13_19 + 4)) + (wrap64 ((wrap64 ((wrap64 ((wrap64 ((wrap64 (rd y665 x13_19)) * 16777216)) + (wrap64 ((wrap64 (rd y665 (wrap64 (x13_19 + 1)))) * 65536)))) + (wrap64 ((wrap64 (rd y665 (wrap64 (x13_19 + 2)))) * 256)))) + (wrap64 (rd y665 (wrap64 (x13_19 + 3)))))))) : Int).toNat).drop (x13_19 : Int).toNat)).bind fun t701 => (if bt694.2 = 0 then ((digest_Number.f kj19 0 t701).bind fun t702 => (if 0 ≤ (wrap64 ((wrap64 (x13_19 + 4)) + (wrap64 ((wrap64 ((wrap64 ((wrap64 ((wrap64 (rd y665 x13_19)) * 16777216)) + (wrap64 ((wrap64 (rd y665 (wrap64 (x13_19 + 1)))) * 65536)))) + (wrap64 ((wrap64 (rd y665 (wrap64 (x13_19 + 2)))) * 256)))) + (wrap64 (rd y665 (wrap64 (x13_19 + 3)))))))) then (if (wrap64 ((wrap64 (x13_19 + 4)) + (wrap64 ((wrap64 ((wrap64 ((wrap64 ((wrap64 (rd y665 x13_19)) * 16777216)) + (wrap64 ((wrap64 (rd y665 (wrap64 (x13_19 + 1)))) * 65536)))) + (wrap64 ((wrap64 (rd y665 (wrap64 (x13_19 + 2)))) * 256)))) + (wrap64 (rd y665 (wrap64 (x13_19 + 3)))))))) ≤ (wrap64 ((wrap64 ((wrap64 (x13_19 + 4)) + (wrap64 ((wrap64 ((wrap64 ((wrap64 ((wrap64 (rd y665 x13_19)) * 16777216)) + (wrap64 ((wrap64 (rd y665 (wrap64 (x13_19 + 1)))) * 65536)))) + (wrap64 ((wrap64 (rd y665 (wrap64 (x13_19 + 2)))) * 256)))) + (wrap64 (rd y665 (wrap64 (x13_19 + 3)))))))) + 8)) then (if (wrap64 ((wrap64 ((wrap64 (x13_19 + 4)) + (wrap64 ((wrap64 ((wrap64 ((wrap64 ((wrap64 (rd y665 x13_19)) * 16777216)) + (wrap64 ((wrap64 (rd y665 (wrap64 (x13_19 + 1)))) * 65536)))) + (wrap64 ((wrap64 (rd y665 (wrap64 (x13_19 + 2)))) * 256)))) + (wrap64 (rd y665 (wrap64 (x13_19 + 3)))))))) + 8)) ≤ (y662.length : Int) then ((digest_Add.f kj19 0 ((y665.take ((wrap64 ((wrap64 ((wrap64 (x13_19 + 4)) + (wrap64 ((wrap64 ((wrap64 ((wrap64 ((wrap64 (rd y665 x13_19)) * 16777216)) + (wrap64 ((wrap64 (rd y665 (wrap64 (x13_19 + 1)))) * 65536)))) + (wrap64 ((wrap64 (rd y665 (wrap64 (x13_19 + 2)))) * 256)))) + (wrap64 (rd y665 (wrap64 (x13_19 + 3)))))))) + 8)) : Int).toNat).drop ((wrap64 ((wrap64 (x13_19 + 4)) + (wrap64 ((wrap64 ((wrap64 ((wrap64 ((wrap64 (rd y665 x13_19)) * 16777216)) + (wrap64 ((wrap64 (rd y665 (wrap64 (x13_19 + 1)))) * 65536)))) + (wrap64 ((wrap64 (rd y665 (wrap64 (x13_19 + 2)))) * 256)))) + (wrap64 (rd y665 (wrap64 (x13_19 + 3)))))))) : Int).toNat)).bind fun t708 => (if t702 = t708 then ((examboardlaw49_awake.f kj19).bind fun t709 => (some t709)) else (none))) else (none)) else (none)) else (none))) else (none))) else (none)) else (none))) else (none))) else (none)) else (none)) else (none)) else (none)) else (none)) else (none)) else (none)) else (none)))))) else (none)) else (none))) else (none)) = some r := by first | (rw [hy659]; with_reducible exact H) | (have H2_ := (Option.bind_some _ _).symm.trans H; rw [hy659]; with_reducible exact H2_) | (have H2_ := (Option.bind_some _ _).symm.trans H; with_reducible exact H2_) | with_reducible exact H | (rw [hy659]; exact H) | exact H
      have Ny659 := am hy659
      clear hy659
      replace H := it_ H
      obtain ⟨c28, H⟩ := H
      have LMc28 := am c28
      clear c28
      obtain ⟨y662, hy662⟩ : ∃ y_ : List Int, y_ = (y659 ++ t644) := ⟨_, rfl⟩
      replace H : (if 0 ≤ ji11 then (if ji11 < (y662.length : Int) then ((some (y662.set (ji11 : Int).toNat a2 : List Int)).bind fun y665 => ((journal_Read.f kj19 y665).bind fun bt666 => (if ji11 ≥ (wrap64 (x13_19 + 4)) then (if 0 ≤ t657 then (if t657 ≤ (t647.length : Int) then ((examboardlaw49_same.f kj19 bt666.1 (t647.take (t657 : Int).toNat)).bind fun t676 => (if t676 = true then (if bt666.2.1 = x13_19 then (if bt666.2.2 = 12 then ((examboardlaw49_awake.f kj19).bind fun t677 => (some t677)) else (none)) else (none)) else (none))) else (none)) else (none)) else (if (bt666.1.length : Int) ≤ t657 then (if 0 ≤ t657 then (if t657 ≤ (t647.length : Int) then ((examboardlaw49_same.f kj19 bt666.1 (t647.take (t657 : Int).toNat)).bind fun t683 => (if t683 = true then (if bt666.2.1 = x13_19 then (if bt666.2.2 = 0 then (none) else ((examboardlaw49_awake.f kj19).bind fun t684 => (some t684))) else (none)) else (none))) else (none)) else (none)) else (if 0 ≤ x13_19 then (if x13_19 < (y662.length : Int) then (if 0 ≤ (wrap64 (x13_19 + 1)) then (if (wrap64 (x13_19 + 1)) < (y662.length : Int) then (if 0 ≤ (wrap64 (x13_19 + 2)) then (if (wrap64 (x13_19 + 2)) < (y662.length : Int) then (if 0 ≤ (wrap64 (x13_19 + 3)) then (if (wrap64 (x13_19 + 3)) < (y662.length : Int) then (if (wrap64 ((wrap64 ((wrap64 (x13_19 + 4)) + (wrap64 ((wrap64 ((wrap64 ((wrap64 ((wrap64 (rd y665 x13_19)) * 16777216)) + (wrap64 ((wrap64 (rd y665 (wrap64 (x13_19 + 1)))) * 65536)))) + (wrap64 ((wrap64 (rd y665 (wrap64 (x13_19 + 2)))) * 256)))) + (wrap64 (rd y665 (wrap64 (x13_19 + 3)))))))) + 8)) > (y662.length : Int) then (none) else (if x13_19 ≤ (y662.length : Int) then ((journal_Last.f kj19 (y665.take (x13_19 : Int).toNat)).bind fun bt694 => (if x13_19 ≤ (wrap64 ((wrap64 (x13_19 + 4)) + (wrap64 ((wrap64 ((wrap64 ((wrap64 ((wrap64 (rd y665 x13_19)) * 16777216)) + (wrap64 ((wrap64 (rd y665 (wrap64 (x13_19 + 1)))) * 65536)))) + (wrap64 ((wrap64 (rd y665 (wrap64 (x13_19 + 2)))) * 256)))) + (wrap64 (rd y665 (wrap64 (x13_19 + 3)))))))) then (if (wrap64 ((wrap64 (x13_19 + 4)) + (wrap64 ((wrap64 ((wrap64 ((wrap64 ((wrap64 (rd y665 x13_19)) * 16777216)) + (wrap64 ((wrap64 (rd y665 (wrap64 (x13_19 + 1)))) * 65536)))) + (wrap64 ((wrap64 (rd y665 (wrap64 (x13_19 + 2)))) * 256)))) + (wrap64 (rd y665 (wrap64 (x13_19 + 3)))))))) ≤ (y662.length : Int) then ((digest_Chain.f kj19 bt694.1 ((y665.take ((wrap64 ((wrap64 (x13_19 + 4)) + (wrap64 ((wrap64 ((wrap64 ((wrap64 ((wrap64 (rd y665 x13_19)) * 16777216)) + (wrap64 ((wrap64 (rd y665 (wrap64 (x13_19 + 1)))) * 65536)))) + (wrap64 ((wrap64 (rd y665 (wrap64 (x13_19 + 2)))) * 256)))) + (wrap64 (rd y665 (wrap64 (x13_19 + 3)))))))) : Int).toNat).drop (x13_19 : Int).toNat)).bind fun t701 => (if bt694.2 = 0 then ((digest_Number.f kj19 0 t701).bind fun t702 => (if 0 ≤ (wrap64 ((wrap64 (x13_19 + 4)) + (wrap64 ((wrap64 ((wrap64 ((wrap64 ((wrap64 (rd y665 x13_19)) * 16777216)) + (wrap64 ((wrap64 (rd y665 (wrap64 (x13_19 + 1)))) * 65536)))) + (wrap64 ((wrap64 (rd y665 (wrap64 (x13_19 + 2)))) * 256)))) + (wrap64 (rd y665 (wrap64 (x13_19 + 3)))))))) then (if (wrap64 ((wrap64 (x13_19 + 4)) + (wrap64 ((wrap64 ((wrap64 ((wrap64 ((wrap64 (rd y665 x13_19)) * 16777216)) + (wrap64 ((wrap64 (rd y665 (wrap64 (x13_19 + 1)))) * 65536)))) + (wrap64 ((wrap64 (rd y665 (wrap64 (x13_19 + 2)))) * 256)))) + (wrap64 (rd y665 (wrap64 (x13_19 + 3)))))))) ≤ (wrap64 ((wrap64 ((wrap64 (x13_19 + 4)) + (wrap64 ((wrap64 ((wrap64 ((wrap64 ((wrap64 (rd y665 x13_19)) * 16777216)) + (wrap64 ((wrap64 (rd y665 (wrap64 (x13_19 + 1)))) * 65536)))) + (wrap64 ((wrap64 (rd y665 (wrap64 (x13_19 + 2)))) * 256)))) + (wrap64 (rd y665 (wrap64 (x13_19 + 3)))))))) + 8)) then (if (wrap64 ((wrap64 ((wrap64 (x13_19 + 4)) + (wrap64 ((wrap64 ((wrap64 ((wrap64 ((wrap64 (rd y665 x13_19)) * 16777216)) + (wrap64 ((wrap64 (rd y665 (wrap64 (x13_19 + 1)))) * 65536)))) + (wrap64 ((wrap64 (rd y665 (wrap64 (x13_19 + 2)))) * 256)))) + (wrap64 (rd y665 (wrap64 (x13_19 + 3)))))))) + 8)) ≤ (y662.length : Int) then ((digest_Add.f kj19 0 ((y665.take ((wrap64 ((wrap64 ((wrap64 (x13_19 + 4)) + (wrap64 ((wrap64 ((wrap64 ((wrap64 ((wrap64 (rd y665 x13_19)) * 16777216)) + (wrap64 ((wrap64 (rd y665 (wrap64 (x13_19 + 1)))) * 65536)))) + (wrap64 ((wrap64 (rd y665 (wrap64 (x13_19 + 2)))) * 256)))) + (wrap64 (rd y665 (wrap64 (x13_19 + 3)))))))) + 8)) : Int).toNat).drop ((wrap64 ((wrap64 (x13_19 + 4)) + (wrap64 ((wrap64 ((wrap64 ((wrap64 ((wrap64 (rd y665 x13_19)) * 16777216)) + (wrap64 ((wrap64 (rd y665 (wrap64 (x13_19 + 1)))) * 65536)))) + (wrap64 ((wrap64 (rd y665 (wrap64 (x13_19 + 2)))) * 256)))) + (wrap64 (rd y665 (wrap64 (x13_19 + 3)))))))) : Int).toNat)).bind fun t708 => (if t702 = t708 then ((examboardlaw49_awake.f kj19).bind fun t709 => (some t709)) else (none))) else (none)) else (none)) else (none))) else (none))) else (none)) else (none))) else (none))) else (none)) else (none)) else (none)) else (none)) else (none)) else (none)) else (none)) else (none)))))) else (none)) else (none)) = some r := by first | (rw [hy662]; with_reducible exact H) | (have H2_ := (Option.bind_some _ _).symm.trans H; rw [hy662]; with_reducible exact H2_) | (have H2_ := (Option.bind_some _ _).symm.trans H; with_reducible exact H2_) | with_reducible exact H | (rw [hy662]; exact H) | exact H
      have Ny662 := am hy662
      clear hy662
      replace H := it_ H
      obtain ⟨c29, H⟩ := H
      have c29b0 : decide (0 ≤ ji11) = true := decide_eq_true c29
      clear c29
      replace H := it_ H
      obtain ⟨c30, H⟩ := H
      have c30b0 : decide (ji11 < (y662.length : Int)) = true := decide_eq_true c30
      clear c30
      obtain ⟨y665, hy665⟩ : ∃ y_ : List Int, y_ = (y662.set (ji11 : Int).toNat a2) := ⟨_, rfl⟩
      replace H : ((journal_Read.f kj19 y665).bind fun bt666 => (if ji11 ≥ (wrap64 (x13_19 + 4)) then (if 0 ≤ t657 then (if t657 ≤ (t647.length : Int) then ((examboardlaw49_same.f kj19 bt666.1 (t647.take (t657 : Int).toNat)).bind fun t676 => (if t676 = true then (if bt666.2.1 = x13_19 then (if bt666.2.2 = 12 then ((examboardlaw49_awake.f kj19).bind fun t677 => (some t677)) else (none)) else (none)) else (none))) else (none)) else (none)) else (if (bt666.1.length : Int) ≤ t657 then (if 0 ≤ t657 then (if t657 ≤ (t647.length : Int) then ((examboardlaw49_same.f kj19 bt666.1 (t647.take (t657 : Int).toNat)).bind fun t683 => (if t683 = true then (if bt666.2.1 = x13_19 then (if bt666.2.2 = 0 then (none) else ((examboardlaw49_awake.f kj19).bind fun t684 => (some t684))) else (none)) else (none))) else (none)) else (none)) else (if 0 ≤ x13_19 then (if x13_19 < (y662.length : Int) then (if 0 ≤ (wrap64 (x13_19 + 1)) then (if (wrap64 (x13_19 + 1)) < (y662.length : Int) then (if 0 ≤ (wrap64 (x13_19 + 2)) then (if (wrap64 (x13_19 + 2)) < (y662.length : Int) then (if 0 ≤ (wrap64 (x13_19 + 3)) then (if (wrap64 (x13_19 + 3)) < (y662.length : Int) then (if (wrap64 ((wrap64 ((wrap64 (x13_19 + 4)) + (wrap64 ((wrap64 ((wrap64 ((wrap64 ((wrap64 (rd y665 x13_19)) * 16777216)) + (wrap64 ((wrap64 (rd y665 (wrap64 (x13_19 + 1)))) * 65536)))) + (wrap64 ((wrap64 (rd y665 (wrap64 (x13_19 + 2)))) * 256)))) + (wrap64 (rd y665 (wrap64 (x13_19 + 3)))))))) + 8)) > (y662.length : Int) then (none) else (if x13_19 ≤ (y662.length : Int) then ((journal_Last.f kj19 (y665.take (x13_19 : Int).toNat)).bind fun bt694 => (if x13_19 ≤ (wrap64 ((wrap64 (x13_19 + 4)) + (wrap64 ((wrap64 ((wrap64 ((wrap64 ((wrap64 (rd y665 x13_19)) * 16777216)) + (wrap64 ((wrap64 (rd y665 (wrap64 (x13_19 + 1)))) * 65536)))) + (wrap64 ((wrap64 (rd y665 (wrap64 (x13_19 + 2)))) * 256)))) + (wrap64 (rd y665 (wrap64 (x13_19 + 3)))))))) then (if (wrap64 ((wrap64 (x13_19 + 4)) + (wrap64 ((wrap64 ((wrap64 ((wrap64 ((wrap64 (rd y665 x13_19)) * 16777216)) + (wrap64 ((wrap64 (rd y665 (wrap64 (x13_19 + 1)))) * 65536)))) + (wrap64 ((wrap64 (rd y665 (wrap64 (x13_19 + 2)))) * 256)))) + (wrap64 (rd y665 (wrap64 (x13_19 + 3)))))))) ≤ (y662.length : Int) then ((digest_Chain.f kj19 bt694.1 ((y665.take ((wrap64 ((wrap64 (x13_19 + 4)) + (wrap64 ((wrap64 ((wrap64 ((wrap64 ((wrap64 (rd y665 x13_19)) * 16777216)) + (wrap64 ((wrap64 (rd y665 (wrap64 (x13_19 + 1)))) * 65536)))) + (wrap64 ((wrap64 (rd y665 (wrap64 (x13_19 + 2)))) * 256)))) + (wrap64 (rd y665 (wrap64 (x13_19 + 3)))))))) : Int).toNat).drop (x13_19 : Int).toNat)).bind fun t701 => (if bt694.2 = 0 then ((digest_Number.f kj19 0 t701).bind fun t702 => (if 0 ≤ (wrap64 ((wrap64 (x13_19 + 4)) + (wrap64 ((wrap64 ((wrap64 ((wrap64 ((wrap64 (rd y665 x13_19)) * 16777216)) + (wrap64 ((wrap64 (rd y665 (wrap64 (x13_19 + 1)))) * 65536)))) + (wrap64 ((wrap64 (rd y665 (wrap64 (x13_19 + 2)))) * 256)))) + (wrap64 (rd y665 (wrap64 (x13_19 + 3)))))))) then (if (wrap64 ((wrap64 (x13_19 + 4)) + (wrap64 ((wrap64 ((wrap64 ((wrap64 ((wrap64 (rd y665 x13_19)) * 16777216)) + (wrap64 ((wrap64 (rd y665 (wrap64 (x13_19 + 1)))) * 65536)))) + (wrap64 ((wrap64 (rd y665 (wrap64 (x13_19 + 2)))) * 256)))) + (wrap64 (rd y665 (wrap64 (x13_19 + 3)))))))) ≤ (wrap64 ((wrap64 ((wrap64 (x13_19 + 4)) + (wrap64 ((wrap64 ((wrap64 ((wrap64 ((wrap64 (rd y665 x13_19)) * 16777216)) + (wrap64 ((wrap64 (rd y665 (wrap64 (x13_19 + 1)))) * 65536)))) + (wrap64 ((wrap64 (rd y665 (wrap64 (x13_19 + 2)))) * 256)))) + (wrap64 (rd y665 (wrap64 (x13_19 + 3)))))))) + 8)) then (if (wrap64 ((wrap64 ((wrap64 (x13_19 + 4)) + (wrap64 ((wrap64 ((wrap64 ((wrap64 ((wrap64 (rd y665 x13_19)) * 16777216)) + (wrap64 ((wrap64 (rd y665 (wrap64 (x13_19 + 1)))) * 65536)))) + (wrap64 ((wrap64 (rd y665 (wrap64 (x13_19 + 2)))) * 256)))) + (wrap64 (rd y665 (wrap64 (x13_19 + 3)))))))) + 8)) ≤ (y662.length : Int) then ((digest_Add.f kj19 0 ((y665.take ((wrap64 ((wrap64 ((wrap64 (x13_19 + 4)) + (wrap64 ((wrap64 ((wrap64 ((wrap64 ((wrap64 (rd y665 x13_19)) * 16777216)) + (wrap64 ((wrap64 (rd y665 (wrap64 (x13_19 + 1)))) * 65536)))) + (wrap64 ((wrap64 (rd y665 (wrap64 (x13_19 + 2)))) * 256)))) + (wrap64 (rd y665 (wrap64 (x13_19 + 3)))))))) + 8)) : Int).toNat).drop ((wrap64 ((wrap64 (x13_19 + 4)) + (wrap64 ((wrap64 ((wrap64 ((wrap64 ((wrap64 (rd y665 x13_19)) * 16777216)) + (wrap64 ((wrap64 (rd y665 (wrap64 (x13_19 + 1)))) * 65536)))) + (wrap64 ((wrap64 (rd y665 (wrap64 (x13_19 + 2)))) * 256)))) + (wrap64 (rd y665 (wrap64 (x13_19 + 3)))))))) : Int).toNat)).bind fun t708 => (if t702 = t708 then ((examboardlaw49_awake.f kj19).bind fun t709 => (some t709)) else (none))) else (none)) else (none)) else (none))) else (none))) else (none)) else (none))) else (none))) else (none)) else (none)) else (none)) else (none)) else (none)) else (none)) else (none)) else (none))))) = some r := by first | (rw [hy665]; with_reducible exact H) | (have H2_ := (Option.bind_some _ _).symm.trans H; rw [hy665]; with_reducible exact H2_) | (have H2_ := (Option.bind_some _ _).symm.trans H; with_reducible exact H2_) | with_reducible exact H | (rw [hy665]; exact H) | exact H
      have Ny665 := am hy665
      clear hy665
      replace H := Option.bind_eq_some_iff.mp H
      obtain ⟨⟨t666, t667, t668⟩, A320, H⟩ := H
      replace H : (if ji11 ≥ (wrap64 (x13_19 + 4)) then (if 0 ≤ t657 then (if t657 ≤ (t647.length : Int) then ((examboardlaw49_same.f kj19 t666 (t647.take (t657 : Int).toNat)).bind fun t676 => (if t676 = true then (if t667 = x13_19 then (if t668 = 12 then ((examboardlaw49_awake.f kj19).bind fun t677 => (some t677)) else (none)) else (none)) else (none))) else (none)) else (none)) else (if (t666.length : Int) ≤ t657 then (if 0 ≤ t657 then (if t657 ≤ (t647.length : Int) then ((examboardlaw49_same.f kj19 t666 (t647.take (t657 : Int).toNat)).bind fun t683 => (if t683 = true then (if t667 = x13_19 then (if t668 = 0 then (none) else ((examboardlaw49_awake.f kj19).bind fun t684 => (some t684))) else (none)) else (none))) else (none)) else (none)) else (if 0 ≤ x13_19 then (if x13_19 < (y662.length : Int) then (if 0 ≤ (wrap64 (x13_19 + 1)) then (if (wrap64 (x13_19 + 1)) < (y662.length : Int) then (if 0 ≤ (wrap64 (x13_19 + 2)) then (if (wrap64 (x13_19 + 2)) < (y662.length : Int) then (if 0 ≤ (wrap64 (x13_19 + 3)) then (if (wrap64 (x13_19 + 3)) < (y662.length : Int) then (if (wrap64 ((wrap64 ((wrap64 (x13_19 + 4)) + (wrap64 ((wrap64 ((wrap64 ((wrap64 ((wrap64 (rd y665 x13_19)) * 16777216)) + (wrap64 ((wrap64 (rd y665 (wrap64 (x13_19 + 1)))) * 65536)))) + (wrap64 ((wrap64 (rd y665 (wrap64 (x13_19 + 2)))) * 256)))) + (wrap64 (rd y665 (wrap64 (x13_19 + 3)))))))) + 8)) > (y662.length : Int) then (none) else (if x13_19 ≤ (y662.length : Int) then ((journal_Last.f kj19 (y665.take (x13_19 : Int).toNat)).bind fun bt694 => (if x13_19 ≤ (wrap64 ((wrap64 (x13_19 + 4)) + (wrap64 ((wrap64 ((wrap64 ((wrap64 ((wrap64 (rd y665 x13_19)) * 16777216)) + (wrap64 ((wrap64 (rd y665 (wrap64 (x13_19 + 1)))) * 65536)))) + (wrap64 ((wrap64 (rd y665 (wrap64 (x13_19 + 2)))) * 256)))) + (wrap64 (rd y665 (wrap64 (x13_19 + 3)))))))) then (if (wrap64 ((wrap64 (x13_19 + 4)) + (wrap64 ((wrap64 ((wrap64 ((wrap64 ((wrap64 (rd y665 x13_19)) * 16777216)) + (wrap64 ((wrap64 (rd y665 (wrap64 (x13_19 + 1)))) * 65536)))) + (wrap64 ((wrap64 (rd y665 (wrap64 (x13_19 + 2)))) * 256)))) + (wrap64 (rd y665 (wrap64 (x13_19 + 3)))))))) ≤ (y662.length : Int) then ((digest_Chain.f kj19 bt694.1 ((y665.take ((wrap64 ((wrap64 (x13_19 + 4)) + (wrap64 ((wrap64 ((wrap64 ((wrap64 ((wrap64 (rd y665 x13_19)) * 16777216)) + (wrap64 ((wrap64 (rd y665 (wrap64 (x13_19 + 1)))) * 65536)))) + (wrap64 ((wrap64 (rd y665 (wrap64 (x13_19 + 2)))) * 256)))) + (wrap64 (rd y665 (wrap64 (x13_19 + 3)))))))) : Int).toNat).drop (x13_19 : Int).toNat)).bind fun t701 => (if bt694.2 = 0 then ((digest_Number.f kj19 0 t701).bind fun t702 => (if 0 ≤ (wrap64 ((wrap64 (x13_19 + 4)) + (wrap64 ((wrap64 ((wrap64 ((wrap64 ((wrap64 (rd y665 x13_19)) * 16777216)) + (wrap64 ((wrap64 (rd y665 (wrap64 (x13_19 + 1)))) * 65536)))) + (wrap64 ((wrap64 (rd y665 (wrap64 (x13_19 + 2)))) * 256)))) + (wrap64 (rd y665 (wrap64 (x13_19 + 3)))))))) then (if (wrap64 ((wrap64 (x13_19 + 4)) + (wrap64 ((wrap64 ((wrap64 ((wrap64 ((wrap64 (rd y665 x13_19)) * 16777216)) + (wrap64 ((wrap64 (rd y665 (wrap64 (x13_19 + 1)))) * 65536)))) + (wrap64 ((wrap64 (rd y665 (wrap64 (x13_19 + 2)))) * 256)))) + (wrap64 (rd y665 (wrap64 (x13_19 + 3)))))))) ≤ (wrap64 ((wrap64 ((wrap64 (x13_19 + 4)) + (wrap64 ((wrap64 ((wrap64 ((wrap64 ((wrap64 (rd y665 x13_19)) * 16777216)) + (wrap64 ((wrap64 (rd y665 (wrap64 (x13_19 + 1)))) * 65536)))) + (wrap64 ((wrap64 (rd y665 (wrap64 (x13_19 + 2)))) * 256)))) + (wrap64 (rd y665 (wrap64 (x13_19 + 3)))))))) + 8)) then (if (wrap64 ((wrap64 ((wrap64 (x13_19 + 4)) + (wrap64 ((wrap64 ((wrap64 ((wrap64 ((wrap64 (rd y665 x13_19)) * 16777216)) + (wrap64 ((wrap64 (rd y665 (wrap64 (x13_19 + 1)))) * 65536)))) + (wrap64 ((wrap64 (rd y665 (wrap64 (x13_19 + 2)))) * 256)))) + (wrap64 (rd y665 (wrap64 (x13_19 + 3)))))))) + 8)) ≤ (y662.length : Int) then ((digest_Add.f kj19 0 ((y665.take ((wrap64 ((wrap64 ((wrap64 (x13_19 + 4)) + (wrap64 ((wrap64 ((wrap64 ((wrap64 ((wrap64 (rd y665 x13_19)) * 16777216)) + (wrap64 ((wrap64 (rd y665 (wrap64 (x13_19 + 1)))) * 65536)))) + (wrap64 ((wrap64 (rd y665 (wrap64 (x13_19 + 2)))) * 256)))) + (wrap64 (rd y665 (wrap64 (x13_19 + 3)))))))) + 8)) : Int).toNat).drop ((wrap64 ((wrap64 (x13_19 + 4)) + (wrap64 ((wrap64 ((wrap64 ((wrap64 ((wrap64 (rd y665 x13_19)) * 16777216)) + (wrap64 ((wrap64 (rd y665 (wrap64 (x13_19 + 1)))) * 65536)))) + (wrap64 ((wrap64 (rd y665 (wrap64 (x13_19 + 2)))) * 256)))) + (wrap64 (rd y665 (wrap64 (x13_19 + 3)))))))) : Int).toNat)).bind fun t708 => (if t702 = t708 then ((examboardlaw49_awake.f kj19).bind fun t709 => (some t709)) else (none))) else (none)) else (none)) else (none))) else (none))) else (none)) else (none))) else (none))) else (none)) else (none)) else (none)) else (none)) else (none)) else (none)) else (none)) else (none)))) = some r := H
      have A32 := am A320
      clear A320
      by_cases c33 : ji11 ≥ (wrap64 (x13_19 + 4))
      ·
       rw [if_pos c33] at H
       have c33b0 : decide ((wrap64 (x13_19 + 4)) ≤ ji11) = true := decide_eq_true c33
       clear c33
       replace H := it_ H
       obtain ⟨c34, H⟩ := H
       have c34b0 := eq_true c34
       have c34b1 : decide (0 ≤ t657) = true := decide_eq_true c34
       clear c34
       replace H := it_ H
       obtain ⟨c35, H⟩ := H
       have c35b0 := eq_true c35
       have c35b1 : decide (t657 ≤ (t647.length : Int)) = true := decide_eq_true c35
       clear c35
       obtain ⟨y671, hy671⟩ : ∃ y_ : List (S43), y_ = (t647.take (t657 : Int).toNat) := ⟨_, rfl⟩
       replace H : ((examboardlaw49_same.f kj19 t666 y671).bind fun t676 => (if t676 = true then (if t667 = x13_19 then (if t668 = 12 then ((examboardlaw49_awake.f kj19).bind fun t677 => (some t677)) else (none)) else (none)) else (none))) = some r := by first | (rw [hy671]; with_reducible exact H) | (have H2_ := (Option.bind_some _ _).symm.trans H; rw [hy671]; with_reducible exact H2_) | (have H2_ := (Option.bind_some _ _).symm.trans H; with_reducible exact H2_) | with_reducible exact H | (rw [hy671]; exact H) | exact H
       have Ny671 := am hy671
       clear hy671
       replace H := Option.bind_eq_some_iff.mp H
       obtain ⟨t676, A360, H⟩ := H
       replace H : (if t676 = true then (if t667 = x13_19 then (if t668 = 12 then ((examboardlaw49_awake.f kj19).bind fun t677 => (some t677)) else (none)) else (none)) else (none)) = some r := H
       have A36 := am A360
       clear A360
       by_cases c37 : t676 = true
       ·
        subst c37
        have H1 : (if t667 = x13_19 then (if t668 = 12 then ((examboardlaw49_awake.f kj19).bind fun t677 => (some t677)) else (none)) else (none)) = some r := by rw [if_pos rfl] at H; exact H
        clear H
        have H := H1
        clear H1
        replace H := it_ H
        obtain ⟨c38, H⟩ := H
        have c38b0 : (t667 == x13_19) = true := beq_iff_eq.mpr c38
        have c38b1 : (t667 != x13_19) = false := bne_eq_false_iff_eq.mpr c38
        clear c38
        replace H := it_ H
        obtain ⟨c39, H⟩ := H
        have c39b0 : (t668 == 12) = true := beq_iff_eq.mpr c39
        have c39b1 : (t668 != 12) = false := bne_eq_false_iff_eq.mpr c39
        clear c39
        replace H := Option.bind_eq_some_iff.mp H
        obtain ⟨t677, A400, H⟩ := H
        replace H : (some t677) = some r := H
        have A40 := am A400
        clear A400
        obtain rfl := Option.some.inj H
        go_wp2_with (first | ((with_reducible refine gate_dst (N := 58) rfl ?_); refine Kd.R_lit (Kd.int .u8) _ 5 ?hg (N := 58) ?hd (xs := ([] : List Int)) (inner := []) (ok := fun _ => True) (okp := fun _ => True) ?hr ?hp (fun _ hk => hk) trivial (Below.refl _ _) (Nat.le_refl _) (by simp) ?_; (case hd => rfl); (case hg => rfl); (case hr => exact gz); (case hp => exact (Reps.none _ _)); intro v660 w41 ho42 hb hg_ hnew_; clear hg_ hnew_; (first | rw [← Ny659.out] at ho42 | (simp only [Int.reduceToNat] at ho42; rw [← Ny659.out] at ho42)); replace HO_8 := am (Kd.N_elder' (nz HO_8.out) (Kd.R_base ho42) hb); have HO661 := am (Kd.R_lower (Kd.R_new' ho42 (Kd.R_lt (rz HO_7.out))) (below_size (hz HB.out))); replace HO_7 := am (Kd.R_elder' (rz HO_7.out) (Kd.R_base ho42) hb); replace HB := am (below_step (hz HB.out) hb); clear hb ho42) | ((with_reducible refine gate_builtin (b := .append) (xs := #[.tmp 58, .tmp 59]) rfl ?_); at_builtin; refine Kd.R_append_rows (Kd.int .u8) (w0 := w) w.heap.size rfl (.tmp 58) (.tmp 59) 24 5 (.int .u8 0) 1 rfl Tryd.underlying24 info5 rfl (by decide) (by omega) v660 y659 t644 _ _ _ (fun k_ => some k_ ≠ (.slice (some ad655) t644.length co22 : Value).ownBlock) (fun _ => False) rfl rfl ?aO ?aR (fun _ _ h => h) (fun _ h => h.elim) ?aF ?aB ?aS ?aL ?_; (case aR => repeat (first | exact (Kd.R_reads' HO_7.out).2.2 | (with_reducible refine Kd.C_alloc ?_ _) | (with_reducible refine Kd.C_drewN ?_ _) | (with_reducible refine Kd.C_drew ?_))); (case aB => exact (hz HB.out)); (case aF => exact (fun k_ hk => Kd.fresh' (Kd.R_lt (rz HO_7.out)) k_ hk)); (case aO => exact (rz (Kd.R_mono HO661.out (fun _ hk => hk.2)))); (case aS => exact (below_size (hz HB.out))); (case aL => have := LMc28.out; omega); intro v663 w43 ho hb hg hat; rw [← Ny662.out] at ho; replace HO_7 := am (Kd.R_after (ok := (fun _ => True)) (rz HO_7.out) hg hat); replace HO_8 := am (Kd.N_afterv (ok := (fun k_ => some k_ ≠ (.slice (some ad655) t644.length co22 : Value).ownBlock)) (nz HO_8.out) hg hat); replace HB := am (hb); have HO664 := am (ho); clear HO661; clear ho hb hg hat; have p31 : 0 ≤ (ji11 : Int) := of_decide_eq_true az; have q31 : (ji11 : Int) < ((y662.length : Int) : Int) := of_decide_eq_true az; obtain ⟨go31, co31, eo31, gb31, gl31, cl31, HG31⟩ := Kd.R_form HO664.out (by omega); (first | cases eo31 | (injection eo31 with ea_ en_ ec_; (first | subst ea_ | (injection ea_ with ea_; subst ea_)); subst ec_; clear en_)); have GB31 := am gb31; have GG31 := am HG31; clear gb31 gl31 HG31; obtain ⟨hx31_0, hf31_0⟩ := Kd.R_celln 0 HO664.out (ji11 : Int) p31 q31; replace p31 := eq_true p31; replace q31 := eq_true q31; obtain ⟨hy44_, hz44_⟩ := Kd.R_celln 0 HO664.out (ji11 : Int) (of_decide_eq_true az) (of_decide_eq_true az); have HP44 := Kd.R_putg HO664.out (ji11 : Int) a2) | ((with_reducible refine gate_store (t := 5) (p := 64) rfl ?_); refine store_event (t := 5) (p := 64) (v := ?vo_w45) (w1 := (w43.setCell ⟨go31, (ji11 : Int).toNat, none⟩ (.int .u8 a2))) ?hg ?ho ?hn ?hr ?_; (case ho => rfl); (case hg => rfl); (case hn => rfl); (case hr => exact gz); intro w45 hw; have hg : w43.grownBy w45 (some go31) := (by rw [hw]; exact HP44.2); have hp_ : Kd.R (Kd.int .u8) 5 w45 w.heap.size (fun k_ => some k_ ≠ (.slice (some ad655) t644.length co22 : Value).ownBlock) (.slice (some ⟨go31, 0, none⟩) y662.length co31) y665 := (by rw [hw, Ny665.out]; exact HP44.1); clear HP44; replace HO_7 := am (Kd.R_after (v := (.slice (some ⟨go31, 0, none⟩) y662.length co31)) (v1 := (.slice (some ⟨go31, 0, none⟩) y662.length co31)) (ok := (fun _ => True)) (rz HO_7.out) hg (.inl rfl)); replace HO_8 := am (Kd.N_afterv (v := (.slice (some ⟨go31, 0, none⟩) y662.length co31)) (v1 := (.slice (some ⟨go31, 0, none⟩) y662.length co31)) (ok := (fun k_ => some k_ ≠ (.slice (some ad655) t644.length co22 : Value).ownBlock)) (nz HO_8.out) hg (.inl rfl)); replace HO664 := am (hp_); replace HB := am ((by rw [hw]; exact below_set (HB.out) GB31.out : Below w.heap.size w w45)); clear hg hw hp_) | ((with_reducible refine gate_callee (f := 11) rfl ?_); refine goesL_ (some 67) rfl rfl Tryd.func11 (by kernel_rfl) rfl #[.slice (some ⟨go31, 0, none⟩) y665.length co31] rfl (by (try simp only [List.map_toArray, List.map_cons, List.map_nil]); first | done | (rw [show y665.length = y662.length from (Kd.R_reads' HO664.out).1.symm] <;> rfl) | rfl | (simp only [List.length_drop, List.length_take]; rfl)) ?_; (with_reducible refine (journal_Read.calls kj19 _ _ y665 t666 t667 t668 _ ?sideG ?side1 ?side2 A32.out).mono ?_); (case sideG => exact gle HG_.out (hz HB.out)); (case side1 => repeat (first | exact (Kd.R_reads' HO664.out).2.2 | (with_reducible refine Kd.C_alloc ?_ _) | (with_reducible refine Kd.C_drewN ?_ _) | (with_reducible refine Kd.C_drew ?_))); (case side2 => rw [show y665.length = y662.length from (Kd.R_reads' HO664.out).1.symm]; exact (Kd.R_reads' HO664.out).2.1); rintro e w46 ⟨v669, rfl, ho0, hb⟩; refine ⟨_, rfl, ?_⟩; have HO670 := am (Kd.N_lower (Kd.N_mono (ok' := fun k_ => some k_ ≠ (.slice (some ad655) t644.length co22 : Value).ownBlock ∧ some k_ ≠ (v648 : Value).ownBlock ∧ some k_ ≠ (.slice (some ⟨go31, 0, none⟩) y662.length co31 : Value).ownBlock) (Kd.R_N (Kd.R_bound ho0)) (fun k_ hk_ => ⟨(Kd.fresh' (Kd.R_lt (rz HO_7.out)) k_ hk_.2.1), (Kd.fresh' (Kd.N_lt (nz HO_8.out)) k_ hk_.2.1), (Kd.fresh' (Kd.R_lt (rz HO664.out)) k_ hk_.2.1)⟩)) (below_size (hz HB.out))); replace HO_7 := am (Kd.R_below (rz HO_7.out) hb); replace HO_8 := am (Kd.N_elder' (nz HO_8.out) (Kd.R_base ho0) hb); replace HO664 := am (Kd.R_below (rz HO664.out) hb); replace HB := am (below_step (hz HB.out) hb); (try clear hb); (try clear hk); (try clear hi); (try clear ho0); obtain ⟨Ao48, co48, eo48⟩ := Kd.N_slice HO_8.out; subst eo48; have q47 : (t657 : Int) ≤ ((t647.length : Int) : Int) := of_decide_eq_true az; obtain ⟨i047, hi047, _, hsz47, _⟩ := info_parts info43; have hroom47 : t647.length ≤ co48 := (Kd.N_reads' HO_8.out).2.1; have hC47 : Kd.F k43 _ _ Ao48 t647.length t647 := (Kd.V_at (base := w.heap.size) (Kd.N_V HO_8.out)).2.2; have hcut47 := cut_to (P := Tryd.prog) 22 43 .i64 Tryd.underlying22 hi047 Ao48 t647.length co48 t657 (of_decide_eq_true az) q47 hroom47; have hr47 := Kd.F_take (m := (t657 : Int).toNat) hC47 (by omega); have hy47 : y671.length = (t657 : Int).toNat := (by rw [Ny671.out, List.length_take]; omega); rw [← Ny671.out] at hr47; rw [← hy47] at hcut47; have HO675 := am (show Kd.V k43 43 _ w.heap.size _ (.slice Ao48 y671.length co48) y671 from Kd.V_mk (by omega) hr47); have HC675 := am (show y671.length ≤ co48 from by omega); clear hr47 hC47 hroom47 hi047 hsz47; have KY47 := am hy47; clear hy47; replace q47 := eq_true q47; obtain ⟨Ao49, co49, eo49⟩ := Kd.N_slice HO670.out; subst eo49) | ((with_reducible refine gate_callee (f := 12) rfl ?_); refine goesL_ (some 79) rfl rfl Tryd.func12 (by kernel_rfl) rfl #[.slice Ao49 t666.length co49, .slice Ao48 y671.length co48] rfl lz ?_; (with_reducible refine (examboardlaw49_same.calls kj19 _ _ t666 _ _ y671 true _ ?side1 ?side2 ?side3 ?side4 A36.out).mono ?_); (case side1 => repeat (first | exact (Kd.N_reads' HO670.out).2.2 | (with_reducible refine Kd.C_alloc ?_ _) | (with_reducible refine Kd.C_drewN ?_ _) | (with_reducible refine Kd.C_drew ?_))); (case side2 => exact (Kd.N_reads' HO670.out).2.1); (case side3 => repeat (first | exact (Kd.V_reads' HO675.out).2.2 | (with_reducible refine Kd.C_alloc ?_ _) | (with_reducible refine Kd.C_drewN ?_ _) | (with_reducible refine Kd.C_drew ?_))); (case side4 => exact (Kd.V_reads' HO675.out).2.1); rintro e w50 ⟨rfl, hb⟩; refine ⟨_, rfl, ?_⟩; replace HO_7 := am (Kd.R_below (rz HO_7.out) hb); replace HO_8 := am (Kd.N_below (nz HO_8.out) hb); replace HO664 := am (Kd.R_below (rz HO664.out) hb); replace HO670 := am (Kd.N_below (nz HO670.out) hb); replace HO675 := am (Kd.V_below (vz HO675.out) hb); replace HB := am (below_step (hz HB.out) hb); (try clear hb); (try clear hk); (try clear hi)) | (go_at_call 16; (with_reducible refine (examboardlaw49_awake.calls kj19  t677 _ ?sideG A40.out).mono ?_); (case sideG => exact gle HG_.out (hz HB.out)); rintro e w51 ⟨rfl, hb⟩; replace HO_7 := am (Kd.R_below (rz HO_7.out) hb); replace HO_8 := am (Kd.N_below (nz HO_8.out) hb); replace HO664 := am (Kd.R_below (rz HO664.out) hb); replace HO670 := am (Kd.N_below (nz HO670.out) hb); replace HO675 := am (Kd.V_below (vz HO675.out) hb); replace HB := am (below_step (hz HB.out) hb); (try clear hb); (try clear hk); (try clear hi)))
        go_ret
        exact ⟨by first | rfl | (simp [errW_none, errW_some] <;> rfl) | (simp only [← hji11]; first | rfl | (simp [errW_none, errW_some] <;> rfl)) | (simp [*, errW_none, errW_some] <;> rfl), hz HB.out⟩
       ·
        replace c37 := Bool.eq_false_iff.mpr c37
        subst c37
        have H1 : (none) = some r := by rw [if_neg (show ¬ (false = true) by decide)] at H; exact H
        clear H
        have H := H1
        clear H1
        exact absurd H (by simp)
      ·
       rw [if_neg c33] at H
       have c33b0 : decide ((wrap64 (x13_19 + 4)) ≤ ji11) = false := decide_eq_false c33
       clear c33
       by_cases c52 : (t666.length : Int) ≤ t657
       ·
        rw [if_pos c52] at H
        have c52b0 : decide ((t666.length : Int) ≤ t657) = true := decide_eq_true c52
        clear c52
        replace H := it_ H
        obtain ⟨c53, H⟩ := H
        have c53b0 := eq_true c53
        have c53b1 : decide (0 ≤ t657) = true := decide_eq_true c53
        clear c53
        replace H := it_ H
        obtain ⟨c54, H⟩ := H
        have c54b0 := eq_true c54
        have c54b1 : decide (t657 ≤ (t647.length : Int)) = true := decide_eq_true c54
        clear c54
        obtain ⟨y678, hy678⟩ : ∃ y_ : List (S43), y_ = (t647.take (t657 : Int).toNat) := ⟨_, rfl⟩
        replace H : ((examboardlaw49_same.f kj19 t666 y678).bind fun t683 => (if t683 = true then (if t667 = x13_19 then (if t668 = 0 then (none) else ((examboardlaw49_awake.f kj19).bind fun t684 => (some t684))) else (none)) else (none))) = some r := by first | (rw [hy678]; with_reducible exact H) | (have H2_ := (Option.bind_some _ _).symm.trans H; rw [hy678]; with_reducible exact H2_) | (have H2_ := (Option.bind_some _ _).symm.trans H; with_reducible exact H2_) | with_reducible exact H | (rw [hy678]; exact H) | exact H
        have Ny678 := am hy678
        clear hy678
        replace H := Option.bind_eq_some_iff.mp H
        obtain ⟨t683, A550, H⟩ := H
        replace H : (if t683 = true then (if t667 = x13_19 then (if t668 = 0 then (none) else ((examboardlaw49_awake.f kj19).bind fun t684 => (some t684))) else (none)) else (none)) = some r := H
        have A55 := am A550
        clear A550
        by_cases c56 : t683 = true
        ·
         subst c56
         have H1 : (if t667 = x13_19 then (if t668 = 0 then (none) else ((examboardlaw49_awake.f kj19).bind fun t684 => (some t684))) else (none)) = some r := by rw [if_pos rfl] at H; exact H
         clear H
         have H := H1
         clear H1
         replace H := it_ H
         obtain ⟨c57, H⟩ := H
         have c57b0 : (t667 == x13_19) = true := beq_iff_eq.mpr c57
         have c57b1 : (t667 != x13_19) = false := bne_eq_false_iff_eq.mpr c57
         clear c57
         replace H := ie_ H
         obtain ⟨c58, H⟩ := H
         have c58b0 : (t668 == 0) = false := beq_eq_false_iff_ne.mpr c58
         have c58b1 : (t668 != 0) = true := bne_iff_ne.mpr c58
         replace H := Option.bind_eq_some_iff.mp H
         obtain ⟨t684, A590, H⟩ := H
         replace H : (some t684) = some r := H
         have A59 := am A590
         clear A590
         obtain rfl := Option.some.inj H
         go_wp2_with (first | ((with_reducible refine gate_dst (N := 58) rfl ?_); refine Kd.R_lit (Kd.int .u8) _ 5 ?hg (N := 58) ?hd (xs := ([] : List Int)) (inner := []) (ok := fun _ => True) (okp := fun _ => True) ?hr ?hp (fun _ hk => hk) trivial (Below.refl _ _) (Nat.le_refl _) (by simp) ?_; (case hd => rfl); (case hg => rfl); (case hr => exact gz); (case hp => exact (Reps.none _ _)); intro v660 w60 ho61 hb hg_ hnew_; clear hg_ hnew_; (first | rw [← Ny659.out] at ho61 | (simp only [Int.reduceToNat] at ho61; rw [← Ny659.out] at ho61)); replace HO_8 := am (Kd.N_elder' (nz HO_8.out) (Kd.R_base ho61) hb); have HO661 := am (Kd.R_lower (Kd.R_new' ho61 (Kd.R_lt (rz HO_7.out))) (below_size (hz HB.out))); replace HO_7 := am (Kd.R_elder' (rz HO_7.out) (Kd.R_base ho61) hb); replace HB := am (below_step (hz HB.out) hb); clear hb ho61) | ((with_reducible refine gate_builtin (b := .append) (xs := #[.tmp 58, .tmp 59]) rfl ?_); at_builtin; refine Kd.R_append_rows (Kd.int .u8) (w0 := w) w.heap.size rfl (.tmp 58) (.tmp 59) 24 5 (.int .u8 0) 1 rfl Tryd.underlying24 info5 rfl (by decide) (by omega) v660 y659 t644 _ _ _ (fun k_ => some k_ ≠ (.slice (some ad655) t644.length co22 : Value).ownBlock) (fun _ => False) rfl rfl ?aO ?aR (fun _ _ h => h) (fun _ h => h.elim) ?aF ?aB ?aS ?aL ?_; (case aR => repeat (first | exact (Kd.R_reads' HO_7.out).2.2 | (with_reducible refine Kd.C_alloc ?_ _) | (with_reducible refine Kd.C_drewN ?_ _) | (with_reducible refine Kd.C_drew ?_))); (case aB => exact (hz HB.out)); (case aF => exact (fun k_ hk => Kd.fresh' (Kd.R_lt (rz HO_7.out)) k_ hk)); (case aO => exact (rz (Kd.R_mono HO661.out (fun _ hk => hk.2)))); (case aS => exact (below_size (hz HB.out))); (case aL => have := LMc28.out; omega); intro v663 w62 ho hb hg hat; rw [← Ny662.out] at ho; replace HO_7 := am (Kd.R_after (ok := (fun _ => True)) (rz HO_7.out) hg hat); replace HO_8 := am (Kd.N_afterv (ok := (fun k_ => some k_ ≠ (.slice (some ad655) t644.length co22 : Value).ownBlock)) (nz HO_8.out) hg hat); replace HB := am (hb); have HO664 := am (ho); clear HO661; clear ho hb hg hat; have p31 : 0 ≤ (ji11 : Int) := of_decide_eq_true az; have q31 : (ji11 : Int) < ((y662.length : Int) : Int) := of_decide_eq_true az; obtain ⟨go31, co31, eo31, gb31, gl31, cl31, HG31⟩ := Kd.R_form HO664.out (by omega); (first | cases eo31 | (injection eo31 with ea_ en_ ec_; (first | subst ea_ | (injection ea_ with ea_; subst ea_)); subst ec_; clear en_)); have GB31 := am gb31; have GG31 := am HG31; clear gb31 gl31 HG31; obtain ⟨hx31_0, hf31_0⟩ := Kd.R_celln 0 HO664.out (ji11 : Int) p31 q31; replace p31 := eq_true p31; replace q31 := eq_true q31; obtain ⟨hy63_, hz63_⟩ := Kd.R_celln 0 HO664.out (ji11 : Int) (of_decide_eq_true az) (of_decide_eq_true az); have HP63 := Kd.R_putg HO664.out (ji11 : Int) a2) | ((with_reducible refine gate_store (t := 5) (p := 64) rfl ?_); refine store_event (t := 5) (p := 64) (v := ?vo_w64) (w1 := (w62.setCell ⟨go31, (ji11 : Int).toNat, none⟩ (.int .u8 a2))) ?hg ?ho ?hn ?hr ?_; (case ho => rfl); (case hg => rfl); (case hn => rfl); (case hr => exact gz); intro w64 hw; have hg : w62.grownBy w64 (some go31) := (by rw [hw]; exact HP63.2); have hp_ : Kd.R (Kd.int .u8) 5 w64 w.heap.size (fun k_ => some k_ ≠ (.slice (some ad655) t644.length co22 : Value).ownBlock) (.slice (some ⟨go31, 0, none⟩) y662.length co31) y665 := (by rw [hw, Ny665.out]; exact HP63.1); clear HP63; replace HO_7 := am (Kd.R_after (v := (.slice (some ⟨go31, 0, none⟩) y662.length co31)) (v1 := (.slice (some ⟨go31, 0, none⟩) y662.length co31)) (ok := (fun _ => True)) (rz HO_7.out) hg (.inl rfl)); replace HO_8 := am (Kd.N_afterv (v := (.slice (some ⟨go31, 0, none⟩) y662.length co31)) (v1 := (.slice (some ⟨go31, 0, none⟩) y662.length co31)) (ok := (fun k_ => some k_ ≠ (.slice (some ad655) t644.length co22 : Value).ownBlock)) (nz HO_8.out) hg (.inl rfl)); replace HO664 := am (hp_); replace HB := am ((by rw [hw]; exact below_set (HB.out) GB31.out : Below w.heap.size w w64)); clear hg hw hp_) | ((with_reducible refine gate_callee (f := 11) rfl ?_); refine goesL_ (some 67) rfl rfl Tryd.func11 (by kernel_rfl) rfl #[.slice (some ⟨go31, 0, none⟩) y665.length co31] rfl (by (try simp only [List.map_toArray, List.map_cons, List.map_nil]); first | done | (rw [show y665.length = y662.length from (Kd.R_reads' HO664.out).1.symm] <;> rfl) | rfl | (simp only [List.length_drop, List.length_take]; rfl)) ?_; (with_reducible refine (journal_Read.calls kj19 _ _ y665 t666 t667 t668 _ ?sideG ?side1 ?side2 A32.out).mono ?_); (case sideG => exact gle HG_.out (hz HB.out)); (case side1 => repeat (first | exact (Kd.R_reads' HO664.out).2.2 | (with_reducible refine Kd.C_alloc ?_ _) | (with_reducible refine Kd.C_drewN ?_ _) | (with_reducible refine Kd.C_drew ?_))); (case side2 => rw [show y665.length = y662.length from (Kd.R_reads' HO664.out).1.symm]; exact (Kd.R_reads' HO664.out).2.1); rintro e w65 ⟨v669, rfl, ho0, hb⟩; refine ⟨_, rfl, ?_⟩; have HO670 := am (Kd.N_lower (Kd.N_mono (ok' := fun k_ => some k_ ≠ (.slice (some ad655) t644.length co22 : Value).ownBlock ∧ some k_ ≠ (v648 : Value).ownBlock ∧ some k_ ≠ (.slice (some ⟨go31, 0, none⟩) y662.length co31 : Value).ownBlock) (Kd.R_N (Kd.R_bound ho0)) (fun k_ hk_ => ⟨(Kd.fresh' (Kd.R_lt (rz HO_7.out)) k_ hk_.2.1), (Kd.fresh' (Kd.N_lt (nz HO_8.out)) k_ hk_.2.1), (Kd.fresh' (Kd.R_lt (rz HO664.out)) k_ hk_.2.1)⟩)) (below_size (hz HB.out))); replace HO_7 := am (Kd.R_below (rz HO_7.out) hb); replace HO_8 := am (Kd.N_elder' (nz HO_8.out) (Kd.R_base ho0) hb); replace HO664 := am (Kd.R_below (rz HO664.out) hb); replace HB := am (below_step (hz HB.out) hb); (try clear hb); (try clear hk); (try clear hi); (try clear ho0); obtain ⟨Ao66, co66, eo66⟩ := Kd.N_slice HO670.out; subst eo66; obtain ⟨Ao68, co68, eo68⟩ := Kd.N_slice HO_8.out; subst eo68; have q67 : (t657 : Int) ≤ ((t647.length : Int) : Int) := of_decide_eq_true az; obtain ⟨i067, hi067, _, hsz67, _⟩ := info_parts info43; have hroom67 : t647.length ≤ co68 := (Kd.N_reads' HO_8.out).2.1; have hC67 : Kd.F k43 _ _ Ao68 t647.length t647 := (Kd.V_at (base := w.heap.size) (Kd.N_V HO_8.out)).2.2; have hcut67 := cut_to (P := Tryd.prog) 22 43 .i64 Tryd.underlying22 hi067 Ao68 t647.length co68 t657 (of_decide_eq_true az) q67 hroom67; have hr67 := Kd.F_take (m := (t657 : Int).toNat) hC67 (by omega); have hy67 : y678.length = (t657 : Int).toNat := (by rw [Ny678.out, List.length_take]; omega); rw [← Ny678.out] at hr67; rw [← hy67] at hcut67; have HO682 := am (show Kd.V k43 43 _ w.heap.size _ (.slice Ao68 y678.length co68) y678 from Kd.V_mk (by omega) hr67); have HC682 := am (show y678.length ≤ co68 from by omega); clear hr67 hC67 hroom67 hi067 hsz67; have KY67 := am hy67; clear hy67; replace q67 := eq_true q67) | ((with_reducible refine gate_callee (f := 12) rfl ?_); refine goesL_ (some 100) rfl rfl Tryd.func12 (by kernel_rfl) rfl #[.slice Ao66 t666.length co66, .slice Ao68 y678.length co68] rfl lz ?_; (with_reducible refine (examboardlaw49_same.calls kj19 _ _ t666 _ _ y678 true _ ?side1 ?side2 ?side3 ?side4 A55.out).mono ?_); (case side1 => repeat (first | exact (Kd.N_reads' HO670.out).2.2 | (with_reducible refine Kd.C_alloc ?_ _) | (with_reducible refine Kd.C_drewN ?_ _) | (with_reducible refine Kd.C_drew ?_))); (case side2 => exact (Kd.N_reads' HO670.out).2.1); (case side3 => repeat (first | exact (Kd.V_reads' HO682.out).2.2 | (with_reducible refine Kd.C_alloc ?_ _) | (with_reducible refine Kd.C_drewN ?_ _) | (with_reducible refine Kd.C_drew ?_))); (case side4 => exact (Kd.V_reads' HO682.out).2.1); rintro e w69 ⟨rfl, hb⟩; refine ⟨_, rfl, ?_⟩; replace HO_7 := am (Kd.R_below (rz HO_7.out) hb); replace HO_8 := am (Kd.N_below (nz HO_8.out) hb); replace HO664 := am (Kd.R_below (rz HO664.out) hb); replace HO670 := am (Kd.N_below (nz HO670.out) hb); replace HO682 := am (Kd.V_below (vz HO682.out) hb); replace HB := am (below_step (hz HB.out) hb); (try clear hb); (try clear hk); (try clear hi)) | (go_at_call 16; (with_reducible refine (examboardlaw49_awake.calls kj19  t684 _ ?sideG A59.out).mono ?_); (case sideG => exact gle HG_.out (hz HB.out)); rintro e w70 ⟨rfl, hb⟩; replace HO_7 := am (Kd.R_below (rz HO_7.out) hb); replace HO_8 := am (Kd.N_below (nz HO_8.out) hb); replace HO664 := am (Kd.R_below (rz HO664.out) hb); replace HO670 := am (Kd.N_below (nz HO670.out) hb); replace HO682 := am (Kd.V_below (vz HO682.out) hb); replace HB := am (below_step (hz HB.out) hb); (try clear hb); (try clear hk); (try clear hi)))
         go_ret
         exact ⟨by first | rfl | (simp [errW_none, errW_some] <;> rfl) | (simp only [← hji11]; first | rfl | (simp [errW_none, errW_some] <;> rfl)) | (simp [*, errW_none, errW_some] <;> rfl), hz HB.out⟩
        ·
         replace c56 := Bool.eq_false_iff.mpr c56
         subst c56
         have H1 : (none) = some r := by rw [if_neg (show ¬ (false = true) by decide)] at H; exact H
         clear H
         have H := H1
         clear H1
         exact absurd H (by simp)
       ·
        rw [if_neg c52] at H
        have c52b0 : decide ((t666.length : Int) ≤ t657) = false := decide_eq_false c52
        clear c52
        replace H := it_ H
        obtain ⟨c71, H⟩ := H
        have c71b0 : decide (0 ≤ x13_19) = true := decide_eq_true c71
        clear c71
        replace H := it_ H
        obtain ⟨c72, H⟩ := H
        have c72b0 : decide (x13_19 < (y662.length : Int)) = true := decide_eq_true c72
        clear c72
        obtain ⟨ji73, hji73⟩ : ∃ j_ : Int, (wrap64 (x13_19 + 1)) = j_ := ⟨_, rfl⟩
        replace H : (if 0 ≤ (ji73) then (if (ji73) < (y662.length : Int) then (if 0 ≤ (wrap64 (x13_19 + 2)) then (if (wrap64 (x13_19 + 2)) < (y662.length : Int) then (if 0 ≤ (wrap64 (x13_19 + 3)) then (if (wrap64 (x13_19 + 3)) < (y662.length : Int) then (if (wrap64 ((wrap64 ((wrap64 (x13_19 + 4)) + (wrap64 ((wrap64 ((wrap64 ((wrap64 ((wrap64 (rd y665 x13_19)) * 16777216)) + (wrap64 ((wrap64 (rd y665 (ji73))) * 65536)))) + (wrap64 ((wrap64 (rd y665 (wrap64 (x13_19 + 2)))) * 256)))) + (wrap64 (rd y665 (wrap64 (x13_19 + 3)))))))) + 8)) > (y662.length : Int) then (none) else (if x13_19 ≤ (y662.length : Int) then ((journal_Last.f kj19 (y665.take (x13_19 : Int).toNat)).bind fun bt694 => (if x13_19 ≤ (wrap64 ((wrap64 (x13_19 + 4)) + (wrap64 ((wrap64 ((wrap64 ((wrap64 ((wrap64 (rd y665 x13_19)) * 16777216)) + (wrap64 ((wrap64 (rd y665 (ji73))) * 65536)))) + (wrap64 ((wrap64 (rd y665 (wrap64 (x13_19 + 2)))) * 256)))) + (wrap64 (rd y665 (wrap64 (x13_19 + 3)))))))) then (if (wrap64 ((wrap64 (x13_19 + 4)) + (wrap64 ((wrap64 ((wrap64 ((wrap64 ((wrap64 (rd y665 x13_19)) * 16777216)) + (wrap64 ((wrap64 (rd y665 (ji73))) * 65536)))) + (wrap64 ((wrap64 (rd y665 (wrap64 (x13_19 + 2)))) * 256)))) + (wrap64 (rd y665 (wrap64 (x13_19 + 3)))))))) ≤ (y662.length : Int) then ((digest_Chain.f kj19 bt694.1 ((y665.take ((wrap64 ((wrap64 (x13_19 + 4)) + (wrap64 ((wrap64 ((wrap64 ((wrap64 ((wrap64 (rd y665 x13_19)) * 16777216)) + (wrap64 ((wrap64 (rd y665 (ji73))) * 65536)))) + (wrap64 ((wrap64 (rd y665 (wrap64 (x13_19 + 2)))) * 256)))) + (wrap64 (rd y665 (wrap64 (x13_19 + 3)))))))) : Int).toNat).drop (x13_19 : Int).toNat)).bind fun t701 => (if bt694.2 = 0 then ((digest_Number.f kj19 0 t701).bind fun t702 => (if 0 ≤ (wrap64 ((wrap64 (x13_19 + 4)) + (wrap64 ((wrap64 ((wrap64 ((wrap64 ((wrap64 (rd y665 x13_19)) * 16777216)) + (wrap64 ((wrap64 (rd y665 (ji73))) * 65536)))) + (wrap64 ((wrap64 (rd y665 (wrap64 (x13_19 + 2)))) * 256)))) + (wrap64 (rd y665 (wrap64 (x13_19 + 3)))))))) then (if (wrap64 ((wrap64 (x13_19 + 4)) + (wrap64 ((wrap64 ((wrap64 ((wrap64 ((wrap64 (rd y665 x13_19)) * 16777216)) + (wrap64 ((wrap64 (rd y665 (ji73))) * 65536)))) + (wrap64 ((wrap64 (rd y665 (wrap64 (x13_19 + 2)))) * 256)))) + (wrap64 (rd y665 (wrap64 (x13_19 + 3)))))))) ≤ (wrap64 ((wrap64 ((wrap64 (x13_19 + 4)) + (wrap64 ((wrap64 ((wrap64 ((wrap64 ((wrap64 (rd y665 x13_19)) * 16777216)) + (wrap64 ((wrap64 (rd y665 (ji73))) * 65536)))) + (wrap64 ((wrap64 (rd y665 (wrap64 (x13_19 + 2)))) * 256)))) + (wrap64 (rd y665 (wrap64 (x13_19 + 3)))))))) + 8)) then (if (wrap64 ((wrap64 ((wrap64 (x13_19 + 4)) + (wrap64 ((wrap64 ((wrap64 ((wrap64 ((wrap64 (rd y665 x13_19)) * 16777216)) + (wrap64 ((wrap64 (rd y665 (ji73))) * 65536)))) + (wrap64 ((wrap64 (rd y665 (wrap64 (x13_19 + 2)))) * 256)))) + (wrap64 (rd y665 (wrap64 (x13_19 + 3)))))))) + 8)) ≤ (y662.length : Int) then ((digest_Add.f kj19 0 ((y665.take ((wrap64 ((wrap64 ((wrap64 (x13_19 + 4)) + (wrap64 ((wrap64 ((wrap64 ((wrap64 ((wrap64 (rd y665 x13_19)) * 16777216)) + (wrap64 ((wrap64 (rd y665 (ji73))) * 65536)))) + (wrap64 ((wrap64 (rd y665 (wrap64 (x13_19 + 2)))) * 256)))) + (wrap64 (rd y665 (wrap64 (x13_19 + 3)))))))) + 8)) : Int).toNat).drop ((wrap64 ((wrap64 (x13_19 + 4)) + (wrap64 ((wrap64 ((wrap64 ((wrap64 ((wrap64 (rd y665 x13_19)) * 16777216)) + (wrap64 ((wrap64 (rd y665 (ji73))) * 65536)))) + (wrap64 ((wrap64 (rd y665 (wrap64 (x13_19 + 2)))) * 256)))) + (wrap64 (rd y665 (wrap64 (x13_19 + 3)))))))) : Int).toNat)).bind fun t708 => (if t702 = t708 then ((examboardlaw49_awake.f kj19).bind fun t709 => (some t709)) else (none))) else (none)) else (none)) else (none))) else (none))) else (none)) else (none))) else (none))) else (none)) else (none)) else (none)) else (none)) else (none)) else (none)) = some r := by first | (rw [hji73] at H; exact H) | (simp only [hji73] at H ⊢; exact H)
        (try rw [hji73] at A32)
        have hji73w : (IntKind.i64.wrap (x13_19 + 1)) = ji73 := (i64_w _).trans hji73
        replace H := it_ H
        obtain ⟨c74, H⟩ := H
        have c74b0 : decide (0 ≤ (ji73)) = true := decide_eq_true c74
        clear c74
        replace H := it_ H
        obtain ⟨c75, H⟩ := H
        have c75b0 : decide ((ji73) < (y662.length : Int)) = true := decide_eq_true c75
        clear c75
        obtain ⟨ji76, hji76⟩ : ∃ j_ : Int, (wrap64 (x13_19 + 2)) = j_ := ⟨_, rfl⟩
        replace H : (if 0 ≤ (ji76) then (if (ji76) < (y662.length : Int) then (if 0 ≤ (wrap64 (x13_19 + 3)) then (if (wrap64 (x13_19 + 3)) < (y662.length : Int) then (if (wrap64 ((wrap64 ((wrap64 (x13_19 + 4)) + (wrap64 ((wrap64 ((wrap64 ((wrap64 ((wrap64 (rd y665 x13_19)) * 16777216)) + (wrap64 ((wrap64 (rd y665 (ji73))) * 65536)))) + (wrap64 ((wrap64 (rd y665 (ji76))) * 256)))) + (wrap64 (rd y665 (wrap64 (x13_19 + 3)))))))) + 8)) > (y662.length : Int) then (none) else (if x13_19 ≤ (y662.length : Int) then ((journal_Last.f kj19 (y665.take (x13_19 : Int).toNat)).bind fun bt694 => (if x13_19 ≤ (wrap64 ((wrap64 (x13_19 + 4)) + (wrap64 ((wrap64 ((wrap64 ((wrap64 ((wrap64 (rd y665 x13_19)) * 16777216)) + (wrap64 ((wrap64 (rd y665 (ji73))) * 65536)))) + (wrap64 ((wrap64 (rd y665 (ji76))) * 256)))) + (wrap64 (rd y665 (wrap64 (x13_19 + 3)))))))) then (if (wrap64 ((wrap64 (x13_19 + 4)) + (wrap64 ((wrap64 ((wrap64 ((wrap64 ((wrap64 (rd y665 x13_19)) * 16777216)) + (wrap64 ((wrap64 (rd y665 (ji73))) * 65536)))) + (wrap64 ((wrap64 (rd y665 (ji76))) * 256)))) + (wrap64 (rd y665 (wrap64 (x13_19 + 3)))))))) ≤ (y662.length : Int) then ((digest_Chain.f kj19 bt694.1 ((y665.take ((wrap64 ((wrap64 (x13_19 + 4)) + (wrap64 ((wrap64 ((wrap64 ((wrap64 ((wrap64 (rd y665 x13_19)) * 16777216)) + (wrap64 ((wrap64 (rd y665 (ji73))) * 65536)))) + (wrap64 ((wrap64 (rd y665 (ji76))) * 256)))) + (wrap64 (rd y665 (wrap64 (x13_19 + 3)))))))) : Int).toNat).drop (x13_19 : Int).toNat)).bind fun t701 => (if bt694.2 = 0 then ((digest_Number.f kj19 0 t701).bind fun t702 => (if 0 ≤ (wrap64 ((wrap64 (x13_19 + 4)) + (wrap64 ((wrap64 ((wrap64 ((wrap64 ((wrap64 (rd y665 x13_19)) * 16777216)) + (wrap64 ((wrap64 (rd y665 (ji73))) * 65536)))) + (wrap64 ((wrap64 (rd y665 (ji76))) * 256)))) + (wrap64 (rd y665 (wrap64 (x13_19 + 3)))))))) then (if (wrap64 ((wrap64 (x13_19 + 4)) + (wrap64 ((wrap64 ((wrap64 ((wrap64 ((wrap64 (rd y665 x13_19)) * 16777216)) + (wrap64 ((wrap64 (rd y665 (ji73))) * 65536)))) + (wrap64 ((wrap64 (rd y665 (ji76))) * 256)))) + (wrap64 (rd y665 (wrap64 (x13_19 + 3)))))))) ≤ (wrap64 ((wrap64 ((wrap64 (x13_19 + 4)) + (wrap64 ((wrap64 ((wrap64 ((wrap64 ((wrap64 (rd y665 x13_19)) * 16777216)) + (wrap64 ((wrap64 (rd y665 (ji73))) * 65536)))) + (wrap64 ((wrap64 (rd y665 (ji76))) * 256)))) + (wrap64 (rd y665 (wrap64 (x13_19 + 3)))))))) + 8)) then (if (wrap64 ((wrap64 ((wrap64 (x13_19 + 4)) + (wrap64 ((wrap64 ((wrap64 ((wrap64 ((wrap64 (rd y665 x13_19)) * 16777216)) + (wrap64 ((wrap64 (rd y665 (ji73))) * 65536)))) + (wrap64 ((wrap64 (rd y665 (ji76))) * 256)))) + (wrap64 (rd y665 (wrap64 (x13_19 + 3)))))))) + 8)) ≤ (y662.length : Int) then ((digest_Add.f kj19 0 ((y665.take ((wrap64 ((wrap64 ((wrap64 (x13_19 + 4)) + (wrap64 ((wrap64 ((wrap64 ((wrap64 ((wrap64 (rd y665 x13_19)) * 16777216)) + (wrap64 ((wrap64 (rd y665 (ji73))) * 65536)))) + (wrap64 ((wrap64 (rd y665 (ji76))) * 256)))) + (wrap64 (rd y665 (wrap64 (x13_19 + 3)))))))) + 8)) : Int).toNat).drop ((wrap64 ((wrap64 (x13_19 + 4)) + (wrap64 ((wrap64 ((wrap64 ((wrap64 ((wrap64 (rd y665 x13_19)) * 16777216)) + (wrap64 ((wrap64 (rd y665 (ji73))) * 65536)))) + (wrap64 ((wrap64 (rd y665 (ji76))) * 256)))) + (wrap64 (rd y665 (wrap64 (x13_19 + 3)))))))) : Int).toNat)).bind fun t708 => (if t702 = t708 then ((examboardlaw49_awake.f kj19).bind fun t709 => (some t709)) else (none))) else (none)) else (none)) else (none))) else (none))) else (none)) else (none))) else (none))) else (none)) else (none)) else (none)) else (none)) = some r := by first | (rw [hji76] at H; exact H) | (simp only [hji76] at H ⊢; exact H)
        (try rw [hji76] at A32)
        have hji76w : (IntKind.i64.wrap (x13_19 + 2)) = ji76 := (i64_w _).trans hji76
        replace H := it_ H
        obtain ⟨c77, H⟩ := H
        have c77b0 : decide (0 ≤ (ji76)) = true := decide_eq_true c77
        clear c77
        replace H := it_ H
        obtain ⟨c78, H⟩ := H
        have c78b0 : decide ((ji76) < (y662.length : Int)) = true := decide_eq_true c78
        clear c78
        obtain ⟨ji79, hji79⟩ : ∃ j_ : Int, (wrap64 (x13_19 + 3)) = j_ := ⟨_, rfl⟩
        replace H : (if 0 ≤ (ji79) then (if (ji79) < (y662.length : Int) then (if (wrap64 ((wrap64 ((wrap64 (x13_19 + 4)) + (wrap64 ((wrap64 ((wrap64 ((wrap64 ((wrap64 (rd y665 x13_19)) * 16777216)) + (wrap64 ((wrap64 (rd y665 (ji73))) * 65536)))) + (wrap64 ((wrap64 (rd y665 (ji76))) * 256)))) + (wrap64 (rd y665 (ji79))))))) + 8)) > (y662.length : Int) then (none) else (if x13_19 ≤ (y662.length : Int) then ((journal_Last.f kj19 (y665.take (x13_19 : Int).toNat)).bind fun bt694 => (if x13_19 ≤ (wrap64 ((wrap64 (x13_19 + 4)) + (wrap64 ((wrap64 ((wrap64 ((wrap64 ((wrap64 (rd y665 x13_19)) * 16777216)) + (wrap64 ((wrap64 (rd y665 (ji73))) * 65536)))) + (wrap64 ((wrap64 (rd y665 (ji76))) * 256)))) + (wrap64 (rd y665 (ji79))))))) then (if (wrap64 ((wrap64 (x13_19 + 4)) + (wrap64 ((wrap64 ((wrap64 ((wrap64 ((wrap64 (rd y665 x13_19)) * 16777216)) + (wrap64 ((wrap64 (rd y665 (ji73))) * 65536)))) + (wrap64 ((wrap64 (rd y665 (ji76))) * 256)))) + (wrap64 (rd y665 (ji79))))))) ≤ (y662.length : Int) then ((digest_Chain.f kj19 bt694.1 ((y665.take ((wrap64 ((wrap64 (x13_19 + 4)) + (wrap64 ((wrap64 ((wrap64 ((wrap64 ((wrap64 (rd y665 x13_19)) * 16777216)) + (wrap64 ((wrap64 (rd y665 (ji73))) * 65536)))) + (wrap64 ((wrap64 (rd y665 (ji76))) * 256)))) + (wrap64 (rd y665 (ji79))))))) : Int).toNat).drop (x13_19 : Int).toNat)).bind fun t701 => (if bt694.2 = 0 then ((digest_Number.f kj19 0 t701).bind fun t702 => (if 0 ≤ (wrap64 ((wrap64 (x13_19 + 4)) + (wrap64 ((wrap64 ((wrap64 ((wrap64 ((wrap64 (rd y665 x13_19)) * 16777216)) + (wrap64 ((wrap64 (rd y665 (ji73))) * 65536)))) + (wrap64 ((wrap64 (rd y665 (ji76))) * 256)))) + (wrap64 (rd y665 (ji79))))))) then (if (wrap64 ((wrap64 (x13_19 + 4)) + (wrap64 ((wrap64 ((wrap64 ((wrap64 ((wrap64 (rd y665 x13_19)) * 16777216)) + (wrap64 ((wrap64 (rd y665 (ji73))) * 65536)))) + (wrap64 ((wrap64 (rd y665 (ji76))) * 256)))) + (wrap64 (rd y665 (ji79))))))) ≤ (wrap64 ((wrap64 ((wrap64 (x13_19 + 4)) + (wrap64 ((wrap64 ((wrap64 ((wrap64 ((wrap64 (rd y665 x13_19)) * 16777216)) + (wrap64 ((wrap64 (rd y665 (ji73))) * 65536)))) + (wrap64 ((wrap64 (rd y665 (ji76))) * 256)))) + (wrap64 (rd y665 (ji79))))))) + 8)) then (if (wrap64 ((wrap64 ((wrap64 (x13_19 + 4)) + (wrap64 ((wrap64 ((wrap64 ((wrap64 ((wrap64 (rd y665 x13_19)) * 16777216)) + (wrap64 ((wrap64 (rd y665 (ji73))) * 65536)))) + (wrap64 ((wrap64 (rd y665 (ji76))) * 256)))) + (wrap64 (rd y665 (ji79))))))) + 8)) ≤ (y662.length : Int) then ((digest_Add.f kj19 0 ((y665.take ((wrap64 ((wrap64 ((wrap64 (x13_19 + 4)) + (wrap64 ((wrap64 ((wrap64 ((wrap64 ((wrap64 (rd y665 x13_19)) * 16777216)) + (wrap64 ((wrap64 (rd y665 (ji73))) * 65536)))) + (wrap64 ((wrap64 (rd y665 (ji76))) * 256)))) + (wrap64 (rd y665 (ji79))))))) + 8)) : Int).toNat).drop ((wrap64 ((wrap64 (x13_19 + 4)) + (wrap64 ((wrap64 ((wrap64 ((wrap64 ((wrap64 (rd y665 x13_19)) * 16777216)) + (wrap64 ((wrap64 (rd y665 (ji73))) * 65536)))) + (wrap64 ((wrap64 (rd y665 (ji76))) * 256)))) + (wrap64 (rd y665 (ji79))))))) : Int).toNat)).bind fun t708 => (if t702 = t708 then ((examboardlaw49_awake.f kj19).bind fun t709 => (some t709)) else (none))) else (none)) else (none)) else (none))) else (none))) else (none)) else (none))) else (none))) else (none)) else (none)) = some r := by first | (rw [hji79] at H; exact H) | (simp only [hji79] at H ⊢; exact H)
        (try rw [hji79] at A32)
        have hji79w : (IntKind.i64.wrap (x13_19 + 3)) = ji79 := (i64_w _).trans hji79
        replace H := it_ H
        obtain ⟨c80, H⟩ := H
        have c80b0 : decide (0 ≤ (ji79)) = true := decide_eq_true c80
        clear c80
        replace H := it_ H
        obtain ⟨c81, H⟩ := H
        have c81b0 : decide ((ji79) < (y662.length : Int)) = true := decide_eq_true c81
        clear c81
        replace H := ie_ H
        obtain ⟨c82, H⟩ := H
        have c82b0 : decide ((y662.length : Int) < (wrap64 ((wrap64 ((wrap64 (x13_19 + 4)) + (wrap64 ((wrap64 ((wrap64 ((wrap64 ((wrap64 (rd y665 x13_19)) * 16777216)) + (wrap64 ((wrap64 (rd y665 (ji73))) * 65536)))) + (wrap64 ((wrap64 (rd y665 (ji76))) * 256)))) + (wrap64 (rd y665 (ji79))))))) + 8))) = false := decide_eq_false c82
        clear c82
        have c83b0 := eq_true (of_decide_eq_true az : 0 ≤ x13_19)
        replace H := it_ H
        obtain ⟨c84, H⟩ := H
        have c84b0 := eq_true c84
        have c84b1 : decide (x13_19 ≤ (y662.length : Int)) = true := decide_eq_true c84
        clear c84
        obtain ⟨y689, hy689⟩ : ∃ y_ : List Int, y_ = (y665.take (x13_19 : Int).toNat) := ⟨_, rfl⟩
        replace H : ((journal_Last.f kj19 y689).bind fun bt694 => (if x13_19 ≤ (wrap64 ((wrap64 (x13_19 + 4)) + (wrap64 ((wrap64 ((wrap64 ((wrap64 ((wrap64 (rd y665 x13_19)) * 16777216)) + (wrap64 ((wrap64 (rd y665 (ji73))) * 65536)))) + (wrap64 ((wrap64 (rd y665 (ji76))) * 256)))) + (wrap64 (rd y665 (ji79))))))) then (if (wrap64 ((wrap64 (x13_19 + 4)) + (wrap64 ((wrap64 ((wrap64 ((wrap64 ((wrap64 (rd y665 x13_19)) * 16777216)) + (wrap64 ((wrap64 (rd y665 (ji73))) * 65536)))) + (wrap64 ((wrap64 (rd y665 (ji76))) * 256)))) + (wrap64 (rd y665 (ji79))))))) ≤ (y662.length : Int) then ((digest_Chain.f kj19 bt694.1 ((y665.take ((wrap64 ((wrap64 (x13_19 + 4)) + (wrap64 ((wrap64 ((wrap64 ((wrap64 ((wrap64 (rd y665 x13_19)) * 16777216)) + (wrap64 ((wrap64 (rd y665 (ji73))) * 65536)))) + (wrap64 ((wrap64 (rd y665 (ji76))) * 256)))) + (wrap64 (rd y665 (ji79))))))) : Int).toNat).drop (x13_19 : Int).toNat)).bind fun t701 => (if bt694.2 = 0 then ((digest_Number.f kj19 0 t701).bind fun t702 => (if 0 ≤ (wrap64 ((wrap64 (x13_19 + 4)) + (wrap64 ((wrap64 ((wrap64 ((wrap64 ((wrap64 (rd y665 x13_19)) * 16777216)) + (wrap64 ((wrap64 (rd y665 (ji73))) * 65536)))) + (wrap64 ((wrap64 (rd y665 (ji76))) * 256)))) + (wrap64 (rd y665 (ji79))))))) then (if (wrap64 ((wrap64 (x13_19 + 4)) + (wrap64 ((wrap64 ((wrap64 ((wrap64 ((wrap64 (rd y665 x13_19)) * 16777216)) + (wrap64 ((wrap64 (rd y665 (ji73))) * 65536)))) + (wrap64 ((wrap64 (rd y665 (ji76))) * 256)))) + (wrap64 (rd y665 (ji79))))))) ≤ (wrap64 ((wrap64 ((wrap64 (x13_19 + 4)) + (wrap64 ((wrap64 ((wrap64 ((wrap64 ((wrap64 (rd y665 x13_19)) * 16777216)) + (wrap64 ((wrap64 (rd y665 (ji73))) * 65536)))) + (wrap64 ((wrap64 (rd y665 (ji76))) * 256)))) + (wrap64 (rd y665 (ji79))))))) + 8)) then (if (wrap64 ((wrap64 ((wrap64 (x13_19 + 4)) + (wrap64 ((wrap64 ((wrap64 ((wrap64 ((wrap64 (rd y665 x13_19)) * 16777216)) + (wrap64 ((wrap64 (rd y665 (ji73))) * 65536)))) + (wrap64 ((wrap64 (rd y665 (ji76))) * 256)))) + (wrap64 (rd y665 (ji79))))))) + 8)) ≤ (y662.length : Int) then ((digest_Add.f kj19 0 ((y665.take ((wrap64 ((wrap64 ((wrap64 (x13_19 + 4)) + (wrap64 ((wrap64 ((wrap64 ((wrap64 ((wrap64 (rd y665 x13_19)) * 16777216)) + (wrap64 ((wrap64 (rd y665 (ji73))) * 65536)))) + (wrap64 ((wrap64 (rd y665 (ji76))) * 256)))) + (wrap64 (rd y665 (ji79))))))) + 8)) : Int).toNat).drop ((wrap64 ((wrap64 (x13_19 + 4)) + (wrap64 ((wrap64 ((wrap64 ((wrap64 ((wrap64 (rd y665 x13_19)) * 16777216)) + (wrap64 ((wrap64 (rd y665 (ji73))) * 65536)))) + (wrap64 ((wrap64 (rd y665 (ji76))) * 256)))) + (wrap64 (rd y665 (ji79))))))) : Int).toNat)).bind fun t708 => (if t702 = t708 then ((examboardlaw49_awake.f kj19).bind fun t709 => (some t709)) else (none))) else (none)) else (none)) else (none))) else (none))) else (none)) else (none))) = some r := by first | (rw [hy689]; with_reducible exact H) | (have H2_ := (Option.bind_some _ _).symm.trans H; rw [hy689]; with_reducible exact H2_) | (have H2_ := (Option.bind_some _ _).symm.trans H; with_reducible exact H2_) | with_reducible exact H | (rw [hy689]; exact H) | exact H
        have Ny689 := am hy689
        clear hy689
        replace H := Option.bind_eq_some_iff.mp H
        obtain ⟨⟨t694, t695⟩, A850, H⟩ := H
        replace H : (if x13_19 ≤ (wrap64 ((wrap64 (x13_19 + 4)) + (wrap64 ((wrap64 ((wrap64 ((wrap64 ((wrap64 (rd y665 x13_19)) * 16777216)) + (wrap64 ((wrap64 (rd y665 (ji73))) * 65536)))) + (wrap64 ((wrap64 (rd y665 (ji76))) * 256)))) + (wrap64 (rd y665 (ji79))))))) then (if (wrap64 ((wrap64 (x13_19 + 4)) + (wrap64 ((wrap64 ((wrap64 ((wrap64 ((wrap64 (rd y665 x13_19)) * 16777216)) + (wrap64 ((wrap64 (rd y665 (ji73))) * 65536)))) + (wrap64 ((wrap64 (rd y665 (ji76))) * 256)))) + (wrap64 (rd y665 (ji79))))))) ≤ (y662.length : Int) then ((digest_Chain.f kj19 t694 ((y665.take ((wrap64 ((wrap64 (x13_19 + 4)) + (wrap64 ((wrap64 ((wrap64 ((wrap64 ((wrap64 (rd y665 x13_19)) * 16777216)) + (wrap64 ((wrap64 (rd y665 (ji73))) * 65536)))) + (wrap64 ((wrap64 (rd y665 (ji76))) * 256)))) + (wrap64 (rd y665 (ji79))))))) : Int).toNat).drop (x13_19 : Int).toNat)).bind fun t701 => (if t695 = 0 then ((digest_Number.f kj19 0 t701).bind fun t702 => (if 0 ≤ (wrap64 ((wrap64 (x13_19 + 4)) + (wrap64 ((wrap64 ((wrap64 ((wrap64 ((wrap64 (rd y665 x13_19)) * 16777216)) + (wrap64 ((wrap64 (rd y665 (ji73))) * 65536)))) + (wrap64 ((wrap64 (rd y665 (ji76))) * 256)))) + (wrap64 (rd y665 (ji79))))))) then (if (wrap64 ((wrap64 (x13_19 + 4)) + (wrap64 ((wrap64 ((wrap64 ((wrap64 ((wrap64 (rd y665 x13_19)) * 16777216)) + (wrap64 ((wrap64 (rd y665 (ji73))) * 65536)))) + (wrap64 ((wrap64 (rd y665 (ji76))) * 256)))) + (wrap64 (rd y665 (ji79))))))) ≤ (wrap64 ((wrap64 ((wrap64 (x13_19 + 4)) + (wrap64 ((wrap64 ((wrap64 ((wrap64 ((wrap64 (rd y665 x13_19)) * 16777216)) + (wrap64 ((wrap64 (rd y665 (ji73))) * 65536)))) + (wrap64 ((wrap64 (rd y665 (ji76))) * 256)))) + (wrap64 (rd y665 (ji79))))))) + 8)) then (if (wrap64 ((wrap64 ((wrap64 (x13_19 + 4)) + (wrap64 ((wrap64 ((wrap64 ((wrap64 ((wrap64 (rd y665 x13_19)) * 16777216)) + (wrap64 ((wrap64 (rd y665 (ji73))) * 65536)))) + (wrap64 ((wrap64 (rd y665 (ji76))) * 256)))) + (wrap64 (rd y665 (ji79))))))) + 8)) ≤ (y662.length : Int) then ((digest_Add.f kj19 0 ((y665.take ((wrap64 ((wrap64 ((wrap64 (x13_19 + 4)) + (wrap64 ((wrap64 ((wrap64 ((wrap64 ((wrap64 (rd y665 x13_19)) * 16777216)) + (wrap64 ((wrap64 (rd y665 (ji73))) * 65536)))) + (wrap64 ((wrap64 (rd y665 (ji76))) * 256)))) + (wrap64 (rd y665 (ji79))))))) + 8)) : Int).toNat).drop ((wrap64 ((wrap64 (x13_19 + 4)) + (wrap64 ((wrap64 ((wrap64 ((wrap64 ((wrap64 (rd y665 x13_19)) * 16777216)) + (wrap64 ((wrap64 (rd y665 (ji73))) * 65536)))) + (wrap64 ((wrap64 (rd y665 (ji76))) * 256)))) + (wrap64 (rd y665 (ji79))))))) : Int).toNat)).bind fun t708 => (if t702 = t708 then ((examboardlaw49_awake.f kj19).bind fun t709 => (some t709)) else (none))) else (none)) else (none)) else (none))) else (none))) else (none)) else (none)) = some r := H
        have A85 := am A850
        clear A850
        have c86b0 := eq_true (of_decide_eq_true az : 0 ≤ x13_19)
        replace H := it_ H
        obtain ⟨c87, H⟩ := H
        have c87b0 := eq_true c87
        have c87b1 : decide (x13_19 ≤ (wrap64 ((wrap64 (x13_19 + 4)) + (wrap64 ((wrap64 ((wrap64 ((wrap64 ((wrap64 (rd y665 x13_19)) * 16777216)) + (wrap64 ((wrap64 (rd y665 (ji73))) * 65536)))) + (wrap64 ((wrap64 (rd y665 (ji76))) * 256)))) + (wrap64 (rd y665 (ji79)))))))) = true := decide_eq_true c87
        replace H := it_ H
        obtain ⟨c88, H⟩ := H
        have c88b0 := eq_true c88
        have c88b1 : decide ((wrap64 ((wrap64 (x13_19 + 4)) + (wrap64 ((wrap64 ((wrap64 ((wrap64 ((wrap64 (rd y665 x13_19)) * 16777216)) + (wrap64 ((wrap64 (rd y665 (ji73))) * 65536)))) + (wrap64 ((wrap64 (rd y665 (ji76))) * 256)))) + (wrap64 (rd y665 (ji79))))))) ≤ (y662.length : Int)) = true := decide_eq_true c88
        obtain ⟨y696, hy696⟩ : ∃ y_ : List Int, y_ = ((y665.take ((wrap64 ((wrap64 (x13_19 + 4)) + (wrap64 ((wrap64 ((wrap64 ((wrap64 ((wrap64 (rd y665 x13_19)) * 16777216)) + (wrap64 ((wrap64 (rd y665 (ji73))) * 65536)))) + (wrap64 ((wrap64 (rd y665 (ji76))) * 256)))) + (wrap64 (rd y665 (ji79))))))) : Int).toNat).drop (x13_19 : Int).toNat) := ⟨_, rfl⟩
        replace H : ((digest_Chain.f kj19 t694 y696).bind fun t701 => (if t695 = 0 then ((digest_Number.f kj19 0 t701).bind fun t702 => (if 0 ≤ (wrap64 ((wrap64 (x13_19 + 4)) + (wrap64 ((wrap64 ((wrap64 ((wrap64 ((wrap64 (rd y665 x13_19)) * 16777216)) + (wrap64 ((wrap64 (rd y665 (ji73))) * 65536)))) + (wrap64 ((wrap64 (rd y665 (ji76))) * 256)))) + (wrap64 (rd y665 (ji79))))))) then (if (wrap64 ((wrap64 (x13_19 + 4)) + (wrap64 ((wrap64 ((wrap64 ((wrap64 ((wrap64 (rd y665 x13_19)) * 16777216)) + (wrap64 ((wrap64 (rd y665 (ji73))) * 65536)))) + (wrap64 ((wrap64 (rd y665 (ji76))) * 256)))) + (wrap64 (rd y665 (ji79))))))) ≤ (wrap64 ((wrap64 ((wrap64 (x13_19 + 4)) + (wrap64 ((wrap64 ((wrap64 ((wrap64 ((wrap64 (rd y665 x13_19)) * 16777216)) + (wrap64 ((wrap64 (rd y665 (ji73))) * 65536)))) + (wrap64 ((wrap64 (rd y665 (ji76))) * 256)))) + (wrap64 (rd y665 (ji79))))))) + 8)) then (if (wrap64 ((wrap64 ((wrap64 (x13_19 + 4)) + (wrap64 ((wrap64 ((wrap64 ((wrap64 ((wrap64 (rd y665 x13_19)) * 16777216)) + (wrap64 ((wrap64 (rd y665 (ji73))) * 65536)))) + (wrap64 ((wrap64 (rd y665 (ji76))) * 256)))) + (wrap64 (rd y665 (ji79))))))) + 8)) ≤ (y662.length : Int) then ((digest_Add.f kj19 0 ((y665.take ((wrap64 ((wrap64 ((wrap64 (x13_19 + 4)) + (wrap64 ((wrap64 ((wrap64 ((wrap64 ((wrap64 (rd y665 x13_19)) * 16777216)) + (wrap64 ((wrap64 (rd y665 (ji73))) * 65536)))) + (wrap64 ((wrap64 (rd y665 (ji76))) * 256)))) + (wrap64 (rd y665 (ji79))))))) + 8)) : Int).toNat).drop ((wrap64 ((wrap64 (x13_19 + 4)) + (wrap64 ((wrap64 ((wrap64 ((wrap64 ((wrap64 (rd y665 x13_19)) * 16777216)) + (wrap64 ((wrap64 (rd y665 (ji73))) * 65536)))) + (wrap64 ((wrap64 (rd y665 (ji76))) * 256)))) + (wrap64 (rd y665 (ji79))))))) : Int).toNat)).bind fun t708 => (if t702 = t708 then ((examboardlaw49_awake.f kj19).bind fun t709 => (some t709)) else (none))) else (none)) else (none)) else (none))) else (none))) = some r := by first | (rw [hy696]; with_reducible exact H) | (have H2_ := (Option.bind_some _ _).symm.trans H; rw [hy696]; with_reducible exact H2_) | (have H2_ := (Option.bind_some _ _).symm.trans H; with_reducible exact H2_) | with_reducible exact H | (rw [hy696]; exact H) | exact H
        have Ny696 := am hy696
        clear hy696
        replace H := Option.bind_eq_some_iff.mp H
        obtain ⟨t701, A890, H⟩ := H
        replace H : (if t695 = 0 then ((digest_Number.f kj19 0 t701).bind fun t702 => (if 0 ≤ (wrap64 ((wrap64 (x13_19 + 4)) + (wrap64 ((wrap64 ((wrap64 ((wrap64 ((wrap64 (rd y665 x13_19)) * 16777216)) + (wrap64 ((wrap64 (rd y665 (ji73))) * 65536)))) + (wrap64 ((wrap64 (rd y665 (ji76))) * 256)))) + (wrap64 (rd y665 (ji79))))))) then (if (wrap64 ((wrap64 (x13_19 + 4)) + (wrap64 ((wrap64 ((wrap64 ((wrap64 ((wrap64 (rd y665 x13_19)) * 16777216)) + (wrap64 ((wrap64 (rd y665 (ji73))) * 65536)))) + (wrap64 ((wrap64 (rd y665 (ji76))) * 256)))) + (wrap64 (rd y665 (ji79))))))) ≤ (wrap64 ((wrap64 ((wrap64 (x13_19 + 4)) + (wrap64 ((wrap64 ((wrap64 ((wrap64 ((wrap64 (rd y665 x13_19)) * 16777216)) + (wrap64 ((wrap64 (rd y665 (ji73))) * 65536)))) + (wrap64 ((wrap64 (rd y665 (ji76))) * 256)))) + (wrap64 (rd y665 (ji79))))))) + 8)) then (if (wrap64 ((wrap64 ((wrap64 (x13_19 + 4)) + (wrap64 ((wrap64 ((wrap64 ((wrap64 ((wrap64 (rd y665 x13_19)) * 16777216)) + (wrap64 ((wrap64 (rd y665 (ji73))) * 65536)))) + (wrap64 ((wrap64 (rd y665 (ji76))) * 256)))) + (wrap64 (rd y665 (ji79))))))) + 8)) ≤ (y662.length : Int) then ((digest_Add.f kj19 0 ((y665.take ((wrap64 ((wrap64 ((wrap64 (x13_19 + 4)) + (wrap64 ((wrap64 ((wrap64 ((wrap64 ((wrap64 (rd y665 x13_19)) * 16777216)) + (wrap64 ((wrap64 (rd y665 (ji73))) * 65536)))) + (wrap64 ((wrap64 (rd y665 (ji76))) * 256)))) + (wrap64 (rd y665 (ji79))))))) + 8)) : Int).toNat).drop ((wrap64 ((wrap64 (x13_19 + 4)) + (wrap64 ((wrap64 ((wrap64 ((wrap64 ((wrap64 (rd y665 x13_19)) * 16777216)) + (wrap64 ((wrap64 (rd y665 (ji73))) * 65536)))) + (wrap64 ((wrap64 (rd y665 (ji76))) * 256)))) + (wrap64 (rd y665 (ji79))))))) : Int).toNat)).bind fun t708 => (if t702 = t708 then ((examboardlaw49_awake.f kj19).bind fun t709 => (some t709)) else (none))) else (none)) else (none)) else (none))) else (none)) = some r := H
        have A89 := am A890
        clear A890
        replace H := it_ H
        obtain ⟨c90, H⟩ := H
        have c90b0 : (t695 == 0) = true := beq_iff_eq.mpr c90
        have c90b1 : (t695 != 0) = false := bne_eq_false_iff_eq.mpr c90
        clear c90
        replace H := Option.bind_eq_some_iff.mp H
        obtain ⟨t702, A910, H⟩ := H
        replace H : (if 0 ≤ (wrap64 ((wrap64 (x13_19 + 4)) + (wrap64 ((wrap64 ((wrap64 ((wrap64 ((wrap64 (rd y665 x13_19)) * 16777216)) + (wrap64 ((wrap64 (rd y665 (ji73))) * 65536)))) + (wrap64 ((wrap64 (rd y665 (ji76))) * 256)))) + (wrap64 (rd y665 (ji79))))))) then (if (wrap64 ((wrap64 (x13_19 + 4)) + (wrap64 ((wrap64 ((wrap64 ((wrap64 ((wrap64 (rd y665 x13_19)) * 16777216)) + (wrap64 ((wrap64 (rd y665 (ji73))) * 65536)))) + (wrap64 ((wrap64 (rd y665 (ji76))) * 256)))) + (wrap64 (rd y665 (ji79))))))) ≤ (wrap64 ((wrap64 ((wrap64 (x13_19 + 4)) + (wrap64 ((wrap64 ((wrap64 ((wrap64 ((wrap64 (rd y665 x13_19)) * 16777216)) + (wrap64 ((wrap64 (rd y665 (ji73))) * 65536)))) + (wrap64 ((wrap64 (rd y665 (ji76))) * 256)))) + (wrap64 (rd y665 (ji79))))))) + 8)) then (if (wrap64 ((wrap64 ((wrap64 (x13_19 + 4)) + (wrap64 ((wrap64 ((wrap64 ((wrap64 ((wrap64 (rd y665 x13_19)) * 16777216)) + (wrap64 ((wrap64 (rd y665 (ji73))) * 65536)))) + (wrap64 ((wrap64 (rd y665 (ji76))) * 256)))) + (wrap64 (rd y665 (ji79))))))) + 8)) ≤ (y662.length : Int) then ((digest_Add.f kj19 0 ((y665.take ((wrap64 ((wrap64 ((wrap64 (x13_19 + 4)) + (wrap64 ((wrap64 ((wrap64 ((wrap64 ((wrap64 (rd y665 x13_19)) * 16777216)) + (wrap64 ((wrap64 (rd y665 (ji73))) * 65536)))) + (wrap64 ((wrap64 (rd y665 (ji76))) * 256)))) + (wrap64 (rd y665 (ji79))))))) + 8)) : Int).toNat).drop ((wrap64 ((wrap64 (x13_19 + 4)) + (wrap64 ((wrap64 ((wrap64 ((wrap64 ((wrap64 (rd y665 x13_19)) * 16777216)) + (wrap64 ((wrap64 (rd y665 (ji73))) * 65536)))) + (wrap64 ((wrap64 (rd y665 (ji76))) * 256)))) + (wrap64 (rd y665 (ji79))))))) : Int).toNat)).bind fun t708 => (if t702 = t708 then ((examboardlaw49_awake.f kj19).bind fun t709 => (some t709)) else (none))) else (none)) else (none)) else (none)) = some r := H
        have A91 := am A910
        clear A910
        obtain ⟨ji92, hji92⟩ : ∃ j_ : Int, (wrap64 ((wrap64 (x13_19 + 4)) + (wrap64 ((wrap64 ((wrap64 ((wrap64 ((wrap64 (rd y665 x13_19)) * 16777216)) + (wrap64 ((wrap64 (rd y665 (ji73))) * 65536)))) + (wrap64 ((wrap64 (rd y665 (ji76))) * 256)))) + (wrap64 (rd y665 (ji79))))))) = j_ := ⟨_, rfl⟩
        replace H : (if 0 ≤ (ji92) then (if (ji92) ≤ (wrap64 ((ji92) + 8)) then (if (wrap64 ((ji92) + 8)) ≤ (y662.length : Int) then ((digest_Add.f kj19 0 ((y665.take ((wrap64 ((ji92) + 8)) : Int).toNat).drop ((ji92) : Int).toNat)).bind fun t708 => (if t702 = t708 then ((examboardlaw49_awake.f kj19).bind fun t709 => (some t709)) else (none))) else (none)) else (none)) else (none)) = some r := by first | (rw [hji92] at H; exact H) | (simp only [hji92] at H ⊢; exact H)
        (try rw [hji92] at c82b0)
        (try rw [hji92] at c87b0)
        (try rw [hji92] at c87b1)
        (try rw [hji92] at c87)
        (try rw [hji92] at c88b0)
        (try rw [hji92] at c88b1)
        (try rw [hji92] at c88)
        (try rw [hji92] at A32)
        (try rw [hji92] at A85)
        (try rw [hji92] at Ny696)
        (try rw [hji92] at A89)
        (try rw [hji92] at A91)
        have hji92w : (IntKind.i64.wrap ((wrap64 (x13_19 + 4)) + (wrap64 ((wrap64 ((wrap64 ((wrap64 ((wrap64 (rd y665 x13_19)) * 16777216)) + (wrap64 ((wrap64 (rd y665 (ji73))) * 65536)))) + (wrap64 ((wrap64 (rd y665 (ji76))) * 256)))) + (wrap64 (rd y665 (ji79))))))) = ji92 := (i64_w _).trans hji92
        replace H := it_ H
        obtain ⟨c93, H⟩ := H
        have c93b0 := eq_true c93
        have c93b1 : decide (0 ≤ (ji92)) = true := decide_eq_true c93
        clear c93
        replace H := it_ H
        obtain ⟨c94, H⟩ := H
        have c94b0 := eq_true c94
        have c94b1 : decide ((ji92) ≤ (wrap64 ((ji92) + 8))) = true := decide_eq_true c94
        replace H := it_ H
        obtain ⟨c95, H⟩ := H
        have c95b0 := eq_true c95
        have c95b1 : decide ((wrap64 ((ji92) + 8)) ≤ (y662.length : Int)) = true := decide_eq_true c95
        obtain ⟨y703, hy703⟩ : ∃ y_ : List Int, y_ = ((y665.take ((wrap64 ((ji92) + 8)) : Int).toNat).drop ((ji92) : Int).toNat) := ⟨_, rfl⟩
        replace H : ((digest_Add.f kj19 0 y703).bind fun t708 => (if t702 = t708 then ((examboardlaw49_awake.f kj19).bind fun t709 => (some t709)) else (none))) = some r := by first | (rw [hy703]; with_reducible exact H) | (have H2_ := (Option.bind_some _ _).symm.trans H; rw [hy703]; with_reducible exact H2_) | (have H2_ := (Option.bind_some _ _).symm.trans H; with_reducible exact H2_) | with_reducible exact H | (rw [hy703]; exact H) | exact H
        have Ny703 := am hy703
        clear hy703
        replace H := Option.bind_eq_some_iff.mp H
        obtain ⟨t708, A960, H⟩ := H
        replace H : (if t702 = t708 then ((examboardlaw49_awake.f kj19).bind fun t709 => (some t709)) else (none)) = some r := H
        have A96 := am A960
        clear A960
        replace H := it_ H
        obtain ⟨c97, H⟩ := H
        have c97b0 : (t702 == t708) = true := beq_iff_eq.mpr c97
        have c97b1 : (t702 != t708) = false := bne_eq_false_iff_eq.mpr c97
        clear c97
        replace H := Option.bind_eq_some_iff.mp H
        obtain ⟨t709, A980, H⟩ := H
        replace H : (some t709) = some r := H
        have A98 := am A980
        clear A980
        obtain rfl := Option.some.inj H
        try go_wp2_with (first | ((with_reducible refine gate_dst (N := 58) rfl ?_); refine Kd.R_lit (Kd.int .u8) _ 5 ?hg (N := 58) ?hd (xs := ([] : List Int)) (inner := []) (ok := fun _ => True) (okp := fun _ => True) ?hr ?hp (fun _ hk => hk) trivial (Below.refl _ _) (Nat.le_refl _) (by simp) ?_; (case hd => rfl); (case hg => rfl); (case hr => exact gz); (case hp => exact (Reps.none _ _)); intro v660 w99 ho100 hb hg_ hnew_; clear hg_ hnew_; (first | rw [← Ny659.out] at ho100 | (simp only [Int.reduceToNat] at ho100; rw [← Ny659.out] at ho100)); replace HO_8 := am (Kd.N_elder' (nz HO_8.out) (Kd.R_base ho100) hb); have HO661 := am (Kd.R_lower (Kd.R_new' ho100 (Kd.R_lt (rz HO_7.out))) (below_size (hz HB.out))); replace HO_7 := am (Kd.R_elder' (rz HO_7.out) (Kd.R_base ho100) hb); replace HB := am (below_step (hz HB.out) hb); clear hb ho100) | ((with_reducible refine gate_builtin (b := .append) (xs := #[.tmp 58, .tmp 59]) rfl ?_); at_builtin; refine Kd.R_append_rows (Kd.int .u8) (w0 := w) w.heap.size rfl (.tmp 58) (.tmp 59) 24 5 (.int .u8 0) 1 rfl Tryd.underlying24 info5 rfl (by decide) (by omega) v660 y659 t644 _ _ _ (fun k_ => some k_ ≠ (.slice (some ad655) t644.length co22 : Value).ownBlock) (fun _ => False) rfl rfl ?aO ?aR (fun _ _ h => h) (fun _ h => h.elim) ?aF ?aB ?aS ?aL ?_; (case aR => repeat (first | exact (Kd.R_reads' HO_7.out).2.2 | (with_reducible refine Kd.C_alloc ?_ _) | (with_reducible refine Kd.C_drewN ?_ _) | (with_reducible refine Kd.C_drew ?_))); (case aB => exact (hz HB.out)); (case aF => exact (fun k_ hk => Kd.fresh' (Kd.R_lt (rz HO_7.out)) k_ hk)); (case aO => exact (rz (Kd.R_mono HO661.out (fun _ hk => hk.2)))); (case aS => exact (below_size (hz HB.out))); (case aL => have := LMc28.out; omega); intro v663 w101 ho hb hg hat; rw [← Ny662.out] at ho; replace HO_7 := am (Kd.R_after (ok := (fun _ => True)) (rz HO_7.out) hg hat); replace HO_8 := am (Kd.N_afterv (ok := (fun k_ => some k_ ≠ (.slice (some ad655) t644.length co22 : Value).ownBlock)) (nz HO_8.out) hg hat); replace HB := am (hb); have HO664 := am (ho); clear HO661; clear ho hb hg hat; have p31 : 0 ≤ (ji11 : Int) := of_decide_eq_true az; have q31 : (ji11 : Int) < ((y662.length : Int) : Int) := of_decide_eq_true az; obtain ⟨go31, co31, eo31, gb31, gl31, cl31, HG31⟩ := Kd.R_form HO664.out (by omega); (first | cases eo31 | (injection eo31 with ea_ en_ ec_; (first | subst ea_ | (injection ea_ with ea_; subst ea_)); subst ec_; clear en_)); have GB31 := am gb31; have GG31 := am HG31; clear gb31 gl31 HG31; obtain ⟨hx31_0, hf31_0⟩ := Kd.R_celln 0 HO664.out (ji11 : Int) p31 q31; replace p31 := eq_true p31; replace q31 := eq_true q31; obtain ⟨hy102_, hz102_⟩ := Kd.R_celln 0 HO664.out (ji11 : Int) (of_decide_eq_true az) (of_decide_eq_true az); have HP102 := Kd.R_putg HO664.out (ji11 : Int) a2) | ((with_reducible refine gate_store (t := 5) (p := 64) rfl ?_); refine store_event (t := 5) (p := 64) (v := ?vo_w103) (w1 := (w101.setCell ⟨go31, (ji11 : Int).toNat, none⟩ (.int .u8 a2))) ?hg ?ho ?hn ?hr ?_; (case ho => rfl); (case hg => rfl); (case hn => rfl); (case hr => exact gz); intro w103 hw; have hg : w101.grownBy w103 (some go31) := (by rw [hw]; exact HP102.2); have hp_ : Kd.R (Kd.int .u8) 5 w103 w.heap.size (fun k_ => some k_ ≠ (.slice (some ad655) t644.length co22 : Value).ownBlock) (.slice (some ⟨go31, 0, none⟩) y662.length co31) y665 := (by rw [hw, Ny665.out]; exact HP102.1); clear HP102; replace HO_7 := am (Kd.R_after (v := (.slice (some ⟨go31, 0, none⟩) y662.length co31)) (v1 := (.slice (some ⟨go31, 0, none⟩) y662.length co31)) (ok := (fun _ => True)) (rz HO_7.out) hg (.inl rfl)); replace HO_8 := am (Kd.N_afterv (v := (.slice (some ⟨go31, 0, none⟩) y662.length co31)) (v1 := (.slice (some ⟨go31, 0, none⟩) y662.length co31)) (ok := (fun k_ => some k_ ≠ (.slice (some ad655) t644.length co22 : Value).ownBlock)) (nz HO_8.out) hg (.inl rfl)); replace HO664 := am (hp_); replace HB := am ((by rw [hw]; exact below_set (HB.out) GB31.out : Below w.heap.size w w103)); clear hg hw hp_) | ((with_reducible refine gate_callee (f := 11) rfl ?_); refine goesL_ (some 67) rfl rfl Tryd.func11 (by kernel_rfl) rfl #[.slice (some ⟨go31, 0, none⟩) y665.length co31] rfl (by (try simp only [List.map_toArray, List.map_cons, List.map_nil]); first | done | (rw [show y665.length = y662.length from (Kd.R_reads' HO664.out).1.symm] <;> rfl) | rfl | (simp only [List.length_drop, List.length_take]; rfl)) ?_; (with_reducible refine (journal_Read.calls kj19 _ _ y665 t666 t667 t668 _ ?sideG ?side1 ?side2 A32.out).mono ?_); (case sideG => exact gle HG_.out (hz HB.out)); (case side1 => repeat (first | exact (Kd.R_reads' HO664.out).2.2 | (with_reducible refine Kd.C_alloc ?_ _) | (with_reducible refine Kd.C_drewN ?_ _) | (with_reducible refine Kd.C_drew ?_))); (case side2 => rw [show y665.length = y662.length from (Kd.R_reads' HO664.out).1.symm]; exact (Kd.R_reads' HO664.out).2.1); rintro e w104 ⟨v669, rfl, ho0, hb⟩; refine ⟨_, rfl, ?_⟩; have HO670 := am (Kd.N_lower (Kd.N_mono (ok' := fun k_ => some k_ ≠ (.slice (some ad655) t644.length co22 : Value).ownBlock ∧ some k_ ≠ (v648 : Value).ownBlock ∧ some k_ ≠ (.slice (some ⟨go31, 0, none⟩) y662.length co31 : Value).ownBlock) (Kd.R_N (Kd.R_bound ho0)) (fun k_ hk_ => ⟨(Kd.fresh' (Kd.R_lt (rz HO_7.out)) k_ hk_.2.1), (Kd.fresh' (Kd.N_lt (nz HO_8.out)) k_ hk_.2.1), (Kd.fresh' (Kd.R_lt (rz HO664.out)) k_ hk_.2.1)⟩)) (below_size (hz HB.out))); replace HO_7 := am (Kd.R_below (rz HO_7.out) hb); replace HO_8 := am (Kd.N_elder' (nz HO_8.out) (Kd.R_base ho0) hb); replace HO664 := am (Kd.R_below (rz HO664.out) hb); replace HB := am (below_step (hz HB.out) hb); (try clear hb); (try clear hk); (try clear hi); (try clear ho0); obtain ⟨Ao105, co105, eo105⟩ := Kd.N_slice HO670.out; subst eo105))
        replace HO_7 := am (Kd.R_drew HO_7.out)
        replace HO_8 := am (Kd.N_drew HO_8.out)
        replace HO664 := am (Kd.R_drew HO664.out)
        replace HO670 := am (Kd.N_drew HO670.out)
        replace HB := am (below_drew1 HB.out)
        have p685 : 0 ≤ (x13_19 : Int) := of_decide_eq_true az
        have q685 : x13_19 < (y665.length : Int) := (by have h_ : (x13_19 : Int) < ((y662.length : Int) : Int) := of_decide_eq_true az; first | (have e_ := (Kd.R_reads' HO664.out).1; omega) | simpa only [Ny665.out, List.length_set] using h_)
        have ql685 : ((x13_19 : Int) < ((y662.length : Int) : Int)) = True := eq_true (of_decide_eq_true az)
        obtain ⟨ad685, e685, hx685_0⟩ := Kd.at_int (Kd.R_reads' HO664.out).2.2 x13_19 p685 q685
        obtain rfl : (⟨go31, 0, none⟩ : Addr) = ad685 := (by injection e685)
        (first | simp only [add_plain] at hx685_0 | simp only [add_at] at hx685_0 | simp only [Addr.add, Nat.zero_add] at hx685_0 | skip)
        replace p685 := eq_true p685
        replace q685 := eq_true q685
        have p686 : 0 ≤ ((ji73) : Int) := of_decide_eq_true az
        have q686 : (ji73) < (y665.length : Int) := (by have h_ : ((ji73) : Int) < ((y662.length : Int) : Int) := of_decide_eq_true az; first | (have e_ := (Kd.R_reads' HO664.out).1; omega) | simpa only [Ny665.out, List.length_set] using h_)
        have ql686 : (((ji73) : Int) < ((y662.length : Int) : Int)) = True := eq_true (of_decide_eq_true az)
        obtain ⟨ad686, e686, hx686_0⟩ := Kd.at_int (Kd.R_reads' HO664.out).2.2 (ji73) p686 q686
        obtain rfl : (⟨go31, 0, none⟩ : Addr) = ad686 := (by injection e686)
        (first | simp only [add_plain] at hx686_0 | simp only [add_at] at hx686_0 | simp only [Addr.add, Nat.zero_add] at hx686_0 | skip)
        replace p686 := eq_true p686
        replace q686 := eq_true q686
        have p687 : 0 ≤ ((ji76) : Int) := of_decide_eq_true az
        have q687 : (ji76) < (y665.length : Int) := (by have h_ : ((ji76) : Int) < ((y662.length : Int) : Int) := of_decide_eq_true az; first | (have e_ := (Kd.R_reads' HO664.out).1; omega) | simpa only [Ny665.out, List.length_set] using h_)
        have ql687 : (((ji76) : Int) < ((y662.length : Int) : Int)) = True := eq_true (of_decide_eq_true az)
        obtain ⟨ad687, e687, hx687_0⟩ := Kd.at_int (Kd.R_reads' HO664.out).2.2 (ji76) p687 q687
        obtain rfl : (⟨go31, 0, none⟩ : Addr) = ad687 := (by injection e687)
        (first | simp only [add_plain] at hx687_0 | simp only [add_at] at hx687_0 | simp only [Addr.add, Nat.zero_add] at hx687_0 | skip)
        replace p687 := eq_true p687
        replace q687 := eq_true q687
        have p688 : 0 ≤ ((ji79) : Int) := of_decide_eq_true az
        have q688 : (ji79) < (y665.length : Int) := (by have h_ : ((ji79) : Int) < ((y662.length : Int) : Int) := of_decide_eq_true az; first | (have e_ := (Kd.R_reads' HO664.out).1; omega) | simpa only [Ny665.out, List.length_set] using h_)
        have ql688 : (((ji79) : Int) < ((y662.length : Int) : Int)) = True := eq_true (of_decide_eq_true az)
        obtain ⟨ad688, e688, hx688_0⟩ := Kd.at_int (Kd.R_reads' HO664.out).2.2 (ji79) p688 q688
        obtain rfl : (⟨go31, 0, none⟩ : Addr) = ad688 := (by injection e688)
        (first | simp only [add_plain] at hx688_0 | simp only [add_at] at hx688_0 | simp only [Addr.add, Nat.zero_add] at hx688_0 | skip)
        replace p688 := eq_true p688
        replace q688 := eq_true q688
        refine start_ (n := 30) (S := fun w' => w'.cell? ⟨go31, (x13_19).toNat, none⟩ = some (.int .u8 (rd y665 x13_19)) ∧ w'.cell? ⟨go31, ((ji73)).toNat, none⟩ = some (.int .u8 (rd y665 (ji73))) ∧ w'.cell? ⟨go31, ((ji76)).toNat, none⟩ = some (.int .u8 (rd y665 (ji76))) ∧ w'.cell? ⟨go31, ((ji79)).toNat, none⟩ = some (.int .u8 (rd y665 (ji79)))) (ds := []) #[false, false, false, false, false, false, false, false, false, false, false, false, false, false, false, false, false, false, false, false, false, false, false, false, false, false, false, false, false, false] (by kernel_rfl) rfl rfl ⟨hx685_0, hx686_0, hx687_0, hx688_0⟩ (fun hHeld => ?_); refine with_tabW examboardlaw49_JournalChange.tab20 examboardlaw49_JournalChange.bits20 (fun HT_ HW_ => ?_)
        generalize w104.drew = w106 at HO_7 HO_8 HO664 HO670 HB hx685_0 hx686_0 hx687_0 hx688_0 hHeld ⊢
        refine pz 0 113 HT_.out ?_
        refine pz 1 114 HT_.out ?_
        refine pz 2 115 HT_.out ?_
        refine pz 6 119 HT_.out ?_
        refine pz 7 120 HT_.out ?_
        refine pz 8 121 HT_.out ?_
        refine pz 9 122 HT_.out ?_
        refine pz 14 127 HT_.out ?_
        refine pz 15 128 HT_.out ?_
        refine pz 16 129 HT_.out ?_
        refine pz 17 130 HT_.out ?_
        refine pz 22 135 HT_.out ?_
        refine pz 23 136 HT_.out ?_
        refine pz 24 137 HT_.out ?_
        refine pz 25 138 HT_.out ?_
        refine tz4 3 116 HT_.out HW_.out hHeld ?_
        refine pz 4 117 HT_.out ?_
        refine pz 5 118 HT_.out ?_
        refine tz4 10 123 HT_.out HW_.out hHeld ?_
        refine pz 11 124 HT_.out ?_
        refine pz 12 125 HT_.out ?_
        refine pz 13 126 HT_.out ?_
        refine tz4 18 131 HT_.out HW_.out hHeld ?_
        refine pz 19 132 HT_.out ?_
        refine pz 20 133 HT_.out ?_
        refine pz 21 134 HT_.out ?_
        refine tz4 26 139 HT_.out HW_.out hHeld ?_
        refine pz 27 140 HT_.out ?_
        refine pz 28 141 HT_.out ?_
        refine pz 29 18 HT_.out ?_
        refine done_ (done_of HT_.out (by kernel_rfl)) ?_
        have hlx107 := (Kd.R_reads' HO664.out).1
        have q107 : (x13_19 : Int) ≤ ((y662.length : Int) : Int) := of_decide_eq_true az
        obtain ⟨i0107, hi0107, _, hsz107, _⟩ := info_parts info5
        have hroom107 : y662.length ≤ co31 := (Kd.R_reads' HO664.out).2.1
        have hroomc107 : y665.length ≤ co31 := (by rw [← hlx107]; exact hroom107)
        have hC107 : Kd.F (Kd.int .u8) _ _ (some ⟨go31, 0, none⟩) y665.length y665 := (Kd.V_at (base := w.heap.size) (Kd.R_V (Kd.R_apart' (Kd.R_apart' (HO664.out) (Kd.N_typed HO_8.out) (by decide)) (Kd.N_typed HO670.out) (by decide)))).2.2
        have hcut107 := cut_to (P := Tryd.prog) 24 5 .i64 Tryd.underlying24 hi0107 (some ⟨go31, 0, none⟩) y662.length co31 x13_19 (of_decide_eq_true az) q107 hroom107
        have hr107 := Kd.F_take (m := (x13_19 : Int).toNat) hC107 (by omega)
        have hy107 : y689.length = (x13_19 : Int).toNat := (by rw [Ny689.out, List.length_take]; omega)
        rw [← Ny689.out] at hr107
        rw [← hy107] at hcut107
        have HO693 := am (show Kd.V (Kd.int .u8) 5 _ w.heap.size _ (.slice (some ⟨go31, 0, none⟩) y689.length co31) y689 from Kd.V_mk (by omega) hr107)
        have HC693 := am (show y689.length ≤ co31 from by omega)
        clear hr107 hC107 hroom107 hi0107 hsz107 hroomc107
        have KY107 := am hy107
        clear hy107
        clear hlx107
        replace q107 := eq_true q107
        try go_wp2_with (first | ((with_reducible refine gate_callee (f := 18) rfl ?_); refine goesL_ (some 155) rfl rfl Tryd.func18 (by kernel_rfl) rfl #[.slice (some ⟨go31, 0, none⟩) y689.length co31] rfl lz ?_; (with_reducible refine (journal_Last.calls kj19 _ _ y689 t694 t695 _ ?sideG ?side1 ?side2 A85.out).mono ?_); (case sideG => exact gle HG_.out (hz HB.out)); (case side1 => repeat (first | exact (Kd.V_reads' HO693.out).2.2 | (with_reducible refine Kd.C_alloc ?_ _) | (with_reducible refine Kd.C_drewN ?_ _) | (with_reducible refine Kd.C_drew ?_))); (case side2 => exact (Kd.V_reads' HO693.out).2.1); rintro e w108 ⟨rfl, hb⟩; refine ⟨_, rfl, ?_⟩; replace HO_7 := am (Kd.R_below (rz HO_7.out) hb); replace HO_8 := am (Kd.N_below (nz HO_8.out) hb); replace HO664 := am (Kd.R_below (rz HO664.out) hb); replace HO670 := am (Kd.N_below (nz HO670.out) hb); replace HO693 := am (Kd.V_below (vz HO693.out) hb); replace HB := am (below_step (hz HB.out) hb); (try clear hb); (try clear hk); (try clear hi); have hlx109 := (Kd.R_reads' HO664.out).1; have q109 : ((ji92) : Int) ≤ ((y662.length : Int) : Int) := of_decide_eq_true az; obtain ⟨i0109, hi0109, _, hsz109, _⟩ := info_parts info5; have hroom109 : y662.length ≤ co31 := (Kd.R_reads' HO664.out).2.1; have hroomc109 : y665.length ≤ co31 := (by rw [← hlx109]; exact hroom109); have hC109 : Kd.F (Kd.int .u8) _ _ (some ⟨go31, 0, none⟩) y665.length y665 := (Kd.V_at (base := w.heap.size) (Kd.R_V (Kd.R_apart' (Kd.R_apart' (HO664.out) (Kd.N_typed HO_8.out) (by decide)) (Kd.N_typed HO670.out) (by decide)))).2.2; have ql109 : (x13_19 : Int) ≤ ((ji92) : Int) := of_decide_eq_true az; have q0109 : (0 : Int) ≤ (x13_19 : Int) := of_decide_eq_true az; have hcut109 := cut_mid (P := Tryd.prog) 24 5 .i64 .i64 Tryd.underlying24 hi0109 1 hsz109 (some ⟨go31, 0, none⟩) y662.length co31 x13_19 (ji92) q0109 ql109 q109 hroom109; have hr109 := Kd.F_mid (lo := (x13_19 : Int).toNat) (hi := ((ji92) : Int).toNat) (c := co31) hC109 (by omega) (by omega) hroomc109; obtain ⟨A109, hA109⟩ : ∃ A1, A1 = (if co31 = (x13_19 : Int).toNat then (some ⟨go31, 0, none⟩) else ((some ⟨go31, 0, none⟩) : Option Addr).map (·.add ((x13_19 : Int).toNat * 1))) := ⟨_, rfl⟩; obtain ⟨c109, hc109⟩ : ∃ c1, c1 = co31 - (x13_19 : Int).toNat := ⟨_, rfl⟩; have hy109 : y696.length = ((ji92) : Int).toNat - (x13_19 : Int).toNat := (by rw [Ny696.out, List.length_drop, List.length_take] <;> omega); rw [show ((y665).take ((ji92) : Int).toNat).drop (x13_19 : Int).toNat = y696 from Ny696.out.symm] at hr109; replace hr109 : Kd.F (Kd.int .u8) _ _ A109 y696.length y696 := (by rw [hA109]; exact hr109); rw [← hy109, ← hA109, ← hc109] at hcut109; have HO700 := am (show Kd.V (Kd.int .u8) 5 _ w.heap.size _ (.slice A109 y696.length c109) y696 from Kd.V_mk (by rw [hy109, hc109]; exact Nat.sub_le_sub_right (Nat.le_trans (by omega) hroom109) _) hr109); have HC700 := am (show y696.length ≤ c109 from by rw [hy109, hc109]; exact Nat.sub_le_sub_right (Nat.le_trans (by omega) hroom109) _); clear hr109 hC109 hroom109 hi0109 hsz109 hc109 hroomc109; have KY109 := am hy109; have KA109 := am hA109; clear hy109 hA109; clear hlx109; replace q109 := eq_true q109) | ((with_reducible refine gate_callee (f := 22) rfl ?_); refine goesL_ (some 163) rfl rfl Tryd.func22 (by kernel_rfl) rfl #[.int .u64 t694, .slice A109 y696.length c109] rfl lz ?_; (with_reducible refine (digest_Chain.calls kj19 t694 _ _ y696 t701 _ ?side1 ?side2 A89.out).mono ?_); (case side1 => repeat (first | exact (Kd.V_reads' HO700.out).2.2 | (with_reducible refine Kd.C_alloc ?_ _) | (with_reducible refine Kd.C_drewN ?_ _) | (with_reducible refine Kd.C_drew ?_))); (case side2 => exact (Kd.V_reads' HO700.out).2.1); rintro e w' ⟨rfl, ⟨nd, rfl⟩⟩; refine ⟨_, rfl, ?_⟩))
        (try (rw [drewN_self w108]; generalize hq_ : World.drewN w108 _ = w108; have n0_ : Aside0 (Kd.R (Kd.int .u8) 5 w108 w.heap.size (fun k_ => some k_ ≠ (.slice (some ad655) t644.length co22 : Value).ownBlock) (.slice (some ⟨go31, 0, none⟩) y662.length co31) y665) := ⟨by rw [← hq_]; exact (rz HO664.out)⟩; have n1_ : Aside0 (Kd.N k43 43 w108 w.heap.size (fun k_ => some k_ ≠ (.slice (some ⟨go31, 0, none⟩) y662.length co31 : Value).ownBlock ∧ some k_ ≠ (.slice (some ad655) t644.length co22 : Value).ownBlock ∧ some k_ ≠ (v648 : Value).ownBlock) (.slice Ao105 t666.length co105) t666) := ⟨by rw [← hq_]; exact (nz (Kd.N_mono HO670.out (fun _ hk => ⟨hk.2.2, ⟨hk.1, hk.2.1⟩⟩)))⟩; have n2_ : Aside0 (Kd.V (Kd.int .u8) 5 w108 w.heap.size (fun k_ => some k_ ≠ (.slice Ao105 t666.length co105 : Value).ownBlock ∧ some k_ ≠ (.slice (some ad655) t644.length co22 : Value).ownBlock ∧ some k_ ≠ (v648 : Value).ownBlock) (.slice (some ⟨go31, 0, none⟩) y689.length co31) y689) := ⟨by rw [← hq_]; exact (vz (Kd.V_mono HO693.out (fun _ hk => ⟨hk.2, ⟨hk.1.1, hk.1.2⟩⟩)))⟩; have n3_ : Aside0 (Kd.V (Kd.int .u8) 5 w108 w.heap.size (fun k_ => some k_ ≠ (.slice Ao105 t666.length co105 : Value).ownBlock ∧ some k_ ≠ (.slice (some ad655) t644.length co22 : Value).ownBlock ∧ some k_ ≠ (v648 : Value).ownBlock) (.slice A109 y696.length c109) y696) := ⟨by rw [← hq_]; exact (vz (Kd.V_mono HO700.out (fun _ hk => ⟨hk.2, ⟨hk.1.1, hk.1.2⟩⟩)))⟩; have n4_ : Aside0 (Kd.R (Kd.int .u8) 5 w108 w.heap.size (fun k_ => some k_ ≠ (.slice (some ⟨go31, 0, none⟩) y662.length co31 : Value).ownBlock) (.slice (some ad655) t644.length co22) t644) := ⟨by rw [← hq_]; exact (rz (Kd.R_mono HO_7.out (fun _ hk => hk.2)))⟩; have n5_ : Aside0 (Kd.N k43 43 w108 w.heap.size (fun k_ => some k_ ≠ (.slice (some ⟨go31, 0, none⟩) y662.length co31 : Value).ownBlock ∧ some k_ ≠ (.slice Ao105 t666.length co105 : Value).ownBlock ∧ some k_ ≠ (.slice (some ad655) t644.length co22 : Value).ownBlock) v648 t647) := ⟨by rw [← hq_]; exact (nz (Kd.N_mono HO_8.out (fun _ hk => ⟨hk.1.2, ⟨hk.2, hk.1.1⟩⟩)))⟩; have n6_ : Aside0 (Below w.heap.size w w108) := ⟨by rw [← hq_]; exact (hz HB.out)⟩; clear HO664 HO670 HO693 HO700 HO_7 HO_8 HB hq_; have HO664 := n0_; have HO670 := n1_; have HO693 := n2_; have HO700 := n3_; have HO_7 := n4_; have HO_8 := n5_; have HB := n6_; clear n0_ n1_ n2_ n3_ n4_ n5_ n6_))
        replace HO_7 := am (Kd.R_drew HO_7.out)
        replace HO_8 := am (Kd.N_drew HO_8.out)
        replace HO664 := am (Kd.R_drew HO664.out)
        replace HO670 := am (Kd.N_drew HO670.out)
        replace HO693 := am (Kd.V_drew HO693.out)
        replace HO700 := am (Kd.V_drew HO700.out)
        replace HB := am (below_drew1 HB.out)
        have hlx111 := (Kd.R_reads' HO664.out).1
        have q111 : ((wrap64 ((ji92) + 8)) : Int) ≤ ((y662.length : Int) : Int) := of_decide_eq_true az
        obtain ⟨i0111, hi0111, _, hsz111, _⟩ := info_parts info5
        have hroom111 : y662.length ≤ co31 := (Kd.R_reads' HO664.out).2.1
        have hroomc111 : y665.length ≤ co31 := (by rw [← hlx111]; exact hroom111)
        have hC111 : Kd.F (Kd.int .u8) _ _ (some ⟨go31, 0, none⟩) y665.length y665 := (Kd.V_at (base := w.heap.size) (Kd.R_V (Kd.R_apart' (Kd.R_apart' (HO664.out) (Kd.N_typed HO_8.out) (by decide)) (Kd.N_typed HO670.out) (by decide)))).2.2
        have ql111 : ((ji92) : Int) ≤ ((wrap64 ((ji92) + 8)) : Int) := of_decide_eq_true az
        have q0111 : (0 : Int) ≤ ((ji92) : Int) := of_decide_eq_true az
        have hcut111 := cut_mid (P := Tryd.prog) 24 5 .i64 .i64 Tryd.underlying24 hi0111 1 hsz111 (some ⟨go31, 0, none⟩) y662.length co31 (ji92) (wrap64 ((ji92) + 8)) q0111 ql111 q111 hroom111
        have hr111 := Kd.F_mid (lo := ((ji92) : Int).toNat) (hi := ((wrap64 ((ji92) + 8)) : Int).toNat) (c := co31) hC111 (by omega) (by omega) hroomc111
        obtain ⟨A111, hA111⟩ : ∃ A1, A1 = (if co31 = ((ji92) : Int).toNat then (some ⟨go31, 0, none⟩) else ((some ⟨go31, 0, none⟩) : Option Addr).map (·.add (((ji92) : Int).toNat * 1))) := ⟨_, rfl⟩
        obtain ⟨c111, hc111⟩ : ∃ c1, c1 = co31 - ((ji92) : Int).toNat := ⟨_, rfl⟩
        have hy111 : y703.length = ((wrap64 ((ji92) + 8)) : Int).toNat - ((ji92) : Int).toNat := (by rw [Ny703.out, List.length_drop, List.length_take] <;> omega)
        rw [show ((y665).take ((wrap64 ((ji92) + 8)) : Int).toNat).drop ((ji92) : Int).toNat = y703 from Ny703.out.symm] at hr111
        replace hr111 : Kd.F (Kd.int .u8) _ _ A111 y703.length y703 := (by rw [hA111]; exact hr111)
        rw [← hy111, ← hA111, ← hc111] at hcut111
        have HO707 := am (show Kd.V (Kd.int .u8) 5 _ w.heap.size _ (.slice A111 y703.length c111) y703 from Kd.V_mk (by rw [hy111, hc111]; exact Nat.sub_le_sub_right (Nat.le_trans (by omega) hroom111) _) hr111)
        have HC707 := am (show y703.length ≤ c111 from by rw [hy111, hc111]; exact Nat.sub_le_sub_right (Nat.le_trans (by omega) hroom111) _)
        clear hr111 hC111 hroom111 hi0111 hsz111 hc111 hroomc111
        have KY111 := am hy111
        have KA111 := am hA111
        clear hy111 hA111
        clear hlx111
        replace q111 := eq_true q111
        refine start_ (n := 17) (S := fun w' => True) (ds := []) #[false, false, false, false, false, false, false, false, false, false, false, false, false, false, false, false, false] (by kernel_rfl) rfl rfl trivial (fun hHeld => ?_); refine with_tabW examboardlaw49_JournalChange.tab26 examboardlaw49_JournalChange.bits26 (fun HT_ HW_ => ?_)
        generalize w108.drew = w110 at HO_7 HO_8 HO664 HO670 HO693 HO700 HB HO707 hHeld ⊢
        refine pz 0 164 HT_.out ?_
        refine pz 1 165 HT_.out ?_
        refine pz 2 166 HT_.out ?_
        refine pz 3 167 HT_.out ?_
        refine pz 5 169 HT_.out ?_
        refine pz 6 170 HT_.out ?_
        refine pz 7 171 HT_.out ?_
        refine pz 8 172 HT_.out ?_
        refine pz 9 173 HT_.out ?_
        refine oz 4 168 HT_.out (fun K hK => ?_)
        refine goes_ Tryd.func23 (by kernel_rfl) rfl #[.int .u64 0, .int .u64 t701] (by rfl) rfl rfl lz ?_
        with_reducible refine (digest_Number.calls kj19 0 t701 t702 _ A91.out).mono ?_
        rintro e w' ⟨rfl, ⟨nd, rfl⟩⟩
        refine ⟨_, rfl, ?_⟩
        refine hK.out _ _ trivial (fun hHeld => ?_)
        clear hK K
        refine norm_ (a' := ?_) ?_ ?_
        rotate_left
        ·
         show Act.put _ (some 168) _ = _
         simp only [Act.put, List.setIfInBounds_toArray, List.set_cons_zero, List.set_cons_succ, i64_w, i32_w]
         rfl
        refine oz 10 174 HT_.out (fun K hK => ?_)
        refine goes_ Tryd.func24 (by kernel_rfl) rfl #[.int .u64 0, .slice A111 y703.length c111] (by rfl) rfl rfl lz ?_
        with_reducible refine (digest_Add.calls kj19 0 _ _ y703 t708 _ ?side1 ?side2 A96.out).mono ?_
        (case side1 => repeat (first | exact (Kd.V_reads' HO707.out).2.2 | (with_reducible refine Kd.C_alloc ?_ _) | (with_reducible refine Kd.C_drewN ?_ _) | (with_reducible refine Kd.C_drew ?_)))
        (case side2 => exact (Kd.V_reads' HO707.out).2.1)
        rintro e w' ⟨rfl, ⟨nd, rfl⟩⟩
        refine ⟨_, rfl, ?_⟩
        refine hK.out _ _ trivial (fun hHeld => ?_)
        clear hK K
        refine norm_ (a' := ?_) ?_ ?_
        rotate_left
        ·
         show Act.put _ (some 174) _ = _
         simp only [Act.put, List.setIfInBounds_toArray, List.set_cons_zero, List.set_cons_succ, i64_w, i32_w]
         rfl
        refine pz 11 175 HT_.out ?_
        refine pz 12 176 HT_.out ?_
        refine pz 13 177 HT_.out ?_
        refine oz 14 178 HT_.out (fun K hK => ?_)
        refine goes_ Tryd.func16 (by kernel_rfl) rfl #[] (by rfl) rfl rfl lz ?_
        with_reducible refine (examboardlaw49_awake.calls kj19  t709 _ ?sideG A98.out).mono ?_
        case sideG => exact gle HG_.out (hz HB.out)
        rintro e w112 ⟨rfl, hb⟩
        refine ⟨_, rfl, ?_⟩
        replace HO_7 := am (Kd.R_below (rz HO_7.out) hb)
        replace HO_8 := am (Kd.N_below (nz HO_8.out) hb)
        replace HO664 := am (Kd.R_below (rz HO664.out) hb)
        replace HO670 := am (Kd.N_below (nz HO670.out) hb)
        replace HO693 := am (Kd.V_below (vz HO693.out) hb)
        replace HO700 := am (Kd.V_below (vz HO700.out) hb)
        replace HO707 := am (Kd.V_below (vz HO707.out) hb)
        replace HB := am (below_step (hz HB.out) hb)
        (try clear hb)
        (try clear hb2)
        (try clear hk)
        (try clear hi)
        refine hK.out _ _ trivial (fun hHeld => ?_)
        clear hK K
        refine norm_ (a' := ?_) ?_ ?_
        rotate_left
        ·
         show Act.put _ (some 178) _ = _
         simp only [Act.put, List.setIfInBounds_toArray, List.set_cons_zero, List.set_cons_succ, i64_w, i32_w]
         rfl
        refine pz 15 179 HT_.out ?_
        refine pz 16 6 HT_.out ?_
        refine done_ (done_of HT_.out (by kernel_rfl)) ?_
        try go_wp2
        go_ret
        exact ⟨by first | rfl | (simp [errW_none, errW_some] <;> rfl) | (simp only [← hji11, ← hji73, ← hji76, ← hji79, ← hji92]; first | rfl | (simp [errW_none, errW_some] <;> rfl)) | (simp [*, errW_none, errW_some] <;> rfl), hz HB.out⟩
 ·
  replace c5 := Bool.eq_false_iff.mpr c5
  subst c5
  have H1 : (none) = some r := by rw [if_neg (show ¬ (false = true) by decide)] at H; exact H
  clear H
  have H := H1
  clear H1
  exact absurd H (by simp)

end Go.Proofs.YteeggfnailpcpaaDoor.Q
