/- Made by wip/myprint.py of this session (it drives the kit's printer): what the calls of the Go functions come to, as plain Lean functions, and the row of a law over them; without conditions. -/
import Derived.Test.YtglpnbcockancaaQx0
import Derived.Test.YtglpnbcockancaaQx1
import Derived.Test.YtglpnbcockancaaQx2
import Derived.Test.YtglpnbcockancaaQx4
import Derived.Test.YtglpnbcockancaaQx6
namespace Go.Proofs.Ytglpnbcockancaa.Q
open Go.RowKit Go.Proofs.YtglpnbcockancaaW.PrintWords Go.Proofs.YtglpnbcockancaaW.PrintLast Go.Proofs.YtglpnbcockancaaW.PrintMore
attribute [local go_sem] max2_int min2_int max_two min_two max_three min_three max_four min_four   -- for this text's walks alone
set_option linter.unusedVariables false
set_option linter.unusedSimpArgs false

/-! ### examboardlaw53_awake: function 18 -/
def examboardlaw53_awake.f (k : Nat)  : Option (Bool) := (some (([1, 2, 3, 4, 5] : List Int) : List Int)).bind fun y300 => ((upload_Split.f k 7 y300 2).bind fun bt303 => ((upload_New.f 7).bind fun bt307 => (if bt303.2 = 0 then (if bt307.2.2.2 = 0 then (if (bt303.1.length : Int) = 3 then (if 2 < (bt303.1.length : Int) then (if ((rd_T25 bt303.1 2).f1) = 4 then (if (((rd_T25 bt303.1 2).f2).length : Int) = 1 then ((upload_Receive.f k bt307.1 bt307.2.1 bt307.2.2.1 ((rd_T25 bt303.1 2).f0) ((rd_T25 bt303.1 2).f1) ((rd_T25 bt303.1 2).f2) ((rd_T25 bt303.1 2).f3)).bind fun bt319 => (if 0 < (bt303.1.length : Int) then ((upload_Receive.f k bt319.1 bt319.2.1 bt319.2.2.1 ((rd_T25 bt303.1 0).f0) ((rd_T25 bt303.1 0).f1) ((rd_T25 bt303.1 0).f2) ((rd_T25 bt303.1 0).f3)).bind fun bt329 => (if 1 < (bt303.1.length : Int) then ((upload_Receive.f k bt329.1 bt329.2.1 bt329.2.2.1 ((rd_T25 bt303.1 1).f0) ((rd_T25 bt303.1 1).f1) ((rd_T25 bt303.1 1).f2) ((rd_T25 bt303.1 1).f3)).bind fun bt339 => ((upload_New.f 0).bind fun bt348 => (if bt319.2.2.2 = 0 then (if bt329.2.2.2 = 0 then (if bt339.2.2.2 = 0 then ((upload_Need.f bt319.1 bt319.2.1 bt319.2.2.1).bind fun t357 => (if t357 = 0 then (if (bt319.2.2.1.length : Int) = 1 then ((upload_Need.f bt329.1 bt329.2.1 bt329.2.2.1).bind fun t358 => (if t358 = 2 then (if (bt329.2.2.1.length : Int) = 1 then ((examboardlaw53_equal.f k bt339.2.1 y300).bind fun t359 => (if t359 = true then (if (bt339.2.2.1.length : Int) = 0 then (some (bt348.2.2.2 == 3)) else (none)) else (none))) else (none)) else (none))) else (none)) else (none))) else (none)) else (none)) else (none)))) else (none))) else (none))) else (none)) else (none)) else (none)) else (none)) else (none)) else (none))))
theorem examboardlaw53_awake.mono : ∀ k, LeO (examboardlaw53_awake.f k ) (examboardlaw53_awake.f (k + 1) ) := by
 intro  k
 unfold examboardlaw53_awake.f
 repeat' first
   | (with_reducible exact examboardlaw53_equal.mono _ _ _)
   | (with_reducible exact upload_Receive.mono _ _ _ _ _ _ _ _)
   | (with_reducible exact upload_Split.mono _ _ _ _)
   | (with_reducible exact LeO.refl _)
   | (with_reducible exact LeO.none _)
   | (with_reducible refine LeO.ite ?_ ?_)
   | (with_reducible refine LeO.bind ?_ (fun _ => ?_))
   | exact examboardlaw53_equal.mono _ _ _
   | exact upload_Receive.mono _ _ _ _ _ _ _ _
   | exact upload_Split.mono _ _ _ _
   | exact LeO.none _
   | refine LeO.ite ?_ ?_
   | refine LeO.bind ?_ (fun _ => ?_)
def examboardlaw53_awake.T6 : Bool × List (List Nat × List Nat) := (true, [([], []), ([], []), ([1], [1]), ([2], [2]), ([0, 3], [0, 3]), ([4], [4]), ([5], [5]), ([5], [5]), ([], []), ([8, 6, 4, 0, 1, 2, 3, 4, 5, 6, 8], [6, 8]), ([7, 9, 0, 1, 2, 3, 4, 5, 6, 7, 8, 9], [7])])
def examboardlaw53_awake.B6 : List Nat := [0, 0, 2, 6, 15, 31, 63, 63, 0, 383, 1023]
theorem examboardlaw53_awake.tab6 : rtab .any (opsOf Try.f18 6) = examboardlaw53_awake.T6 := by kernel_rfl
theorem examboardlaw53_awake.bits6 : waitsOk examboardlaw53_awake.T6.2 examboardlaw53_awake.B6 = true := by kernel_rfl
def examboardlaw53_awake.T7 : Bool × List (List Nat × List Nat) := (true, [([], []), ([], []), ([1], [1]), ([2], [2]), ([0, 3], [0, 3]), ([4], [4]), ([5], [5]), ([5], [5]), ([], []), ([8, 6, 4, 0, 1, 2, 3, 4, 5, 6, 8], [6, 8]), ([7, 9, 0, 1, 2, 3, 4, 5, 6, 7, 8, 9], [7])])
def examboardlaw53_awake.B7 : List Nat := [0, 0, 2, 6, 15, 31, 63, 63, 0, 383, 1023]
theorem examboardlaw53_awake.tab7 : rtab .any (opsOf Try.f18 7) = examboardlaw53_awake.T7 := by kernel_rfl
theorem examboardlaw53_awake.bits7 : waitsOk examboardlaw53_awake.T7.2 examboardlaw53_awake.B7 = true := by kernel_rfl
def examboardlaw53_awake.T8 : Bool × List (List Nat × List Nat) := (true, [([], []), ([], []), ([1], [1]), ([2], [2]), ([0, 3], [0, 3]), ([4], [4]), ([5], [5]), ([5], [5]), ([], []), ([8, 6, 4, 0, 1, 2, 3, 4, 5, 6, 8], [6, 8]), ([7, 9, 0, 1, 2, 3, 4, 5, 6, 7, 8, 9], [7])])
def examboardlaw53_awake.B8 : List Nat := [0, 0, 2, 6, 15, 31, 63, 63, 0, 383, 1023]
theorem examboardlaw53_awake.tab8 : rtab .any (opsOf Try.f18 8) = examboardlaw53_awake.T8 := by kernel_rfl
theorem examboardlaw53_awake.bits8 : waitsOk examboardlaw53_awake.T8.2 examboardlaw53_awake.B8 = true := by kernel_rfl
set_option maxHeartbeats 8000000 in
set_option maxRecDepth 100000 in
theorem examboardlaw53_awake.calls (k : Nat)  (r : Bool) (w : World) (h : examboardlaw53_awake.f k  = some r) :
  Calls Try.prog 18 #[] w fun e w' => e = .returned (.bool r) ∧ Below w.heap.size w w' := by
 have hu34 := Try.underlying34
 have hu25 := Try.underlying25
 have HB := am (Below.refl w.heap.size w)
 have H : ((some (([1, 2, 3, 4, 5] : List Int) : List Int)).bind fun y300 => ((upload_Split.f k 7 y300 2).bind fun bt303 => ((upload_New.f 7).bind fun bt307 => (if bt303.2 = 0 then (if bt307.2.2.2 = 0 then (if (bt303.1.length : Int) = 3 then (if 2 < (bt303.1.length : Int) then (if ((rd_T25 bt303.1 2).f1) = 4 then (if (((rd_T25 bt303.1 2).f2).length : Int) = 1 then ((upload_Receive.f k bt307.1 bt307.2.1 bt307.2.2.1 ((rd_T25 bt303.1 2).f0) ((rd_T25 bt303.1 2).f1) ((rd_T25 bt303.1 2).f2) ((rd_T25 bt303.1 2).f3)).bind fun bt319 => (if 0 < (bt303.1.length : Int) then ((upload_Receive.f k bt319.1 bt319.2.1 bt319.2.2.1 ((rd_T25 bt303.1 0).f0) ((rd_T25 bt303.1 0).f1) ((rd_T25 bt303.1 0).f2) ((rd_T25 bt303.1 0).f3)).bind fun bt329 => (if 1 < (bt303.1.length : Int) then ((upload_Receive.f k bt329.1 bt329.2.1 bt329.2.2.1 ((rd_T25 bt303.1 1).f0) ((rd_T25 bt303.1 1).f1) ((rd_T25 bt303.1 1).f2) ((rd_T25 bt303.1 1).f3)).bind fun bt339 => ((upload_New.f 0).bind fun bt348 => (if bt319.2.2.2 = 0 then (if bt329.2.2.2 = 0 then (if bt339.2.2.2 = 0 then ((upload_Need.f bt319.1 bt319.2.1 bt319.2.2.1).bind fun t357 => (if t357 = 0 then (if (bt319.2.2.1.length : Int) = 1 then ((upload_Need.f bt329.1 bt329.2.1 bt329.2.2.1).bind fun t358 => (if t358 = 2 then (if (bt329.2.2.1.length : Int) = 1 then ((examboardlaw53_equal.f k bt339.2.1 y300).bind fun t359 => (if t359 = true then (if (bt339.2.2.1.length : Int) = 0 then (some (bt348.2.2.2 == 3)) else (none)) else (none))) else (none)) else (none))) else (none)) else (none))) else (none)) else (none)) else (none)))) else (none))) else (none))) else (none)) else (none)) else (none)) else (none)) else (none)) else (none))))) = some r := h
 clear h
 obtain ⟨y300, hy300⟩ : ∃ y_ : List Int, y_ = (([1, 2, 3, 4, 5] : List Int)) := ⟨_, rfl⟩
 replace H : ((upload_Split.f k 7 y300 2).bind fun bt303 => ((upload_New.f 7).bind fun bt307 => (if bt303.2 = 0 then (if bt307.2.2.2 = 0 then (if (bt303.1.length : Int) = 3 then (if 2 < (bt303.1.length : Int) then (if ((rd_T25 bt303.1 2).f1) = 4 then (if (((rd_T25 bt303.1 2).f2).length : Int) = 1 then ((upload_Receive.f k bt307.1 bt307.2.1 bt307.2.2.1 ((rd_T25 bt303.1 2).f0) ((rd_T25 bt303.1 2).f1) ((rd_T25 bt303.1 2).f2) ((rd_T25 bt303.1 2).f3)).bind fun bt319 => (if 0 < (bt303.1.length : Int) then ((upload_Receive.f k bt319.1 bt319.2.1 bt319.2.2.1 ((rd_T25 bt303.1 0).f0) ((rd_T25 bt303.1 0).f1) ((rd_T25 bt303.1 0).f2) ((rd_T25 bt303.1 0).f3)).bind fun bt329 => (if 1 < (bt303.1.length : Int) then ((upload_Receive.f k bt329.1 bt329.2.1 bt329.2.2.1 ((rd_T25 bt303.1 1).f0) ((rd_T25 bt303.1 1).f1) ((rd_T25 bt303.1 1).f2) ((rd_T25 bt303.1 1).f3)).bind fun bt339 => ((upload_New.f 0).bind fun bt348 => (if bt319.2.2.2 = 0 then (if bt329.2.2.2 = 0 then (if bt339.2.2.2 = 0 then ((upload_Need.f bt319.1 bt319.2.1 bt319.2.2.1).bind fun t357 => (if t357 = 0 then (if (bt319.2.2.1.length : Int) = 1 then ((upload_Need.f bt329.1 bt329.2.1 bt329.2.2.1).bind fun t358 => (if t358 = 2 then (if (bt329.2.2.1.length : Int) = 1 then ((examboardlaw53_equal.f k bt339.2.1 y300).bind fun t359 => (if t359 = true then (if (bt339.2.2.1.length : Int) = 0 then (some (bt348.2.2.2 == 3)) else (none)) else (none))) else (none)) else (none))) else (none)) else (none))) else (none)) else (none)) else (none)))) else (none))) else (none))) else (none)) else (none)) else (none)) else (none)) else (none)) else (none)))) = some r := by first | (rw [hy300]; with_reducible exact H) | (have H2_ := (Option.bind_some _ _).symm.trans H; rw [hy300]; with_reducible exact H2_) | (have H2_ := (Option.bind_some _ _).symm.trans H; with_reducible exact H2_) | with_reducible exact H | (rw [hy300]; exact H) | exact H
 have Ny300 := am hy300
 clear hy300
 replace H := Option.bind_eq_some_iff.mp H
 obtain ⟨⟨t303, t304⟩, A10, H⟩ := H
 replace H : ((upload_New.f 7).bind fun bt307 => (if t304 = 0 then (if bt307.2.2.2 = 0 then (if (t303.length : Int) = 3 then (if 2 < (t303.length : Int) then (if ((rd_T25 t303 2).f1) = 4 then (if (((rd_T25 t303 2).f2).length : Int) = 1 then ((upload_Receive.f k bt307.1 bt307.2.1 bt307.2.2.1 ((rd_T25 t303 2).f0) ((rd_T25 t303 2).f1) ((rd_T25 t303 2).f2) ((rd_T25 t303 2).f3)).bind fun bt319 => (if 0 < (t303.length : Int) then ((upload_Receive.f k bt319.1 bt319.2.1 bt319.2.2.1 ((rd_T25 t303 0).f0) ((rd_T25 t303 0).f1) ((rd_T25 t303 0).f2) ((rd_T25 t303 0).f3)).bind fun bt329 => (if 1 < (t303.length : Int) then ((upload_Receive.f k bt329.1 bt329.2.1 bt329.2.2.1 ((rd_T25 t303 1).f0) ((rd_T25 t303 1).f1) ((rd_T25 t303 1).f2) ((rd_T25 t303 1).f3)).bind fun bt339 => ((upload_New.f 0).bind fun bt348 => (if bt319.2.2.2 = 0 then (if bt329.2.2.2 = 0 then (if bt339.2.2.2 = 0 then ((upload_Need.f bt319.1 bt319.2.1 bt319.2.2.1).bind fun t357 => (if t357 = 0 then (if (bt319.2.2.1.length : Int) = 1 then ((upload_Need.f bt329.1 bt329.2.1 bt329.2.2.1).bind fun t358 => (if t358 = 2 then (if (bt329.2.2.1.length : Int) = 1 then ((examboardlaw53_equal.f k bt339.2.1 y300).bind fun t359 => (if t359 = true then (if (bt339.2.2.1.length : Int) = 0 then (some (bt348.2.2.2 == 3)) else (none)) else (none))) else (none)) else (none))) else (none)) else (none))) else (none)) else (none)) else (none)))) else (none))) else (none))) else (none)) else (none)) else (none)) else (none)) else (none)) else (none))) = some r := H
 have A1 := am A10
 clear A10
 replace H := Option.bind_eq_some_iff.mp H
 obtain ⟨⟨t307, t308, t311, t314⟩, A20, H⟩ := H
 replace H : (if t304 = 0 then (if t314 = 0 then (if (t303.length : Int) = 3 then (if 2 < (t303.length : Int) then (if ((rd_T25 t303 2).f1) = 4 then (if (((rd_T25 t303 2).f2).length : Int) = 1 then ((upload_Receive.f k t307 t308 t311 ((rd_T25 t303 2).f0) ((rd_T25 t303 2).f1) ((rd_T25 t303 2).f2) ((rd_T25 t303 2).f3)).bind fun bt319 => (if 0 < (t303.length : Int) then ((upload_Receive.f k bt319.1 bt319.2.1 bt319.2.2.1 ((rd_T25 t303 0).f0) ((rd_T25 t303 0).f1) ((rd_T25 t303 0).f2) ((rd_T25 t303 0).f3)).bind fun bt329 => (if 1 < (t303.length : Int) then ((upload_Receive.f k bt329.1 bt329.2.1 bt329.2.2.1 ((rd_T25 t303 1).f0) ((rd_T25 t303 1).f1) ((rd_T25 t303 1).f2) ((rd_T25 t303 1).f3)).bind fun bt339 => ((upload_New.f 0).bind fun bt348 => (if bt319.2.2.2 = 0 then (if bt329.2.2.2 = 0 then (if bt339.2.2.2 = 0 then ((upload_Need.f bt319.1 bt319.2.1 bt319.2.2.1).bind fun t357 => (if t357 = 0 then (if (bt319.2.2.1.length : Int) = 1 then ((upload_Need.f bt329.1 bt329.2.1 bt329.2.2.1).bind fun t358 => (if t358 = 2 then (if (bt329.2.2.1.length : Int) = 1 then ((examboardlaw53_equal.f k bt339.2.1 y300).bind fun t359 => (if t359 = true then (if (bt339.2.2.1.length : Int) = 0 then (some (bt348.2.2.2 == 3)) else (none)) else (none))) else (none)) else (none))) else (none)) else (none))) else (none)) else (none)) else (none)))) else (none))) else (none))) else (none)) else (none)) else (none)) else (none)) else (none)) else (none)) = some r := H
 have A2 := am A20
 clear A20
 replace H := it_ H
 obtain ⟨c3, H⟩ := H
 have c3b0 : (t304 == 0) = true := beq_iff_eq.mpr c3
 have c3b1 : (t304 != 0) = false := bne_eq_false_iff_eq.mpr c3
 clear c3
 replace H := it_ H
 obtain ⟨c4, H⟩ := H
 have c4b0 : (t314 == 0) = true := beq_iff_eq.mpr c4
 have c4b1 : (t314 != 0) = false := bne_eq_false_iff_eq.mpr c4
 clear c4
 replace H := it_ H
 obtain ⟨c5, H⟩ := H
 have c5b0 : ((t303.length : Int) == 3) = true := beq_iff_eq.mpr c5
 have c5b1 : ((t303.length : Int) != 3) = false := bne_eq_false_iff_eq.mpr c5
 clear c5
 replace H := it_ H
 obtain ⟨c6, H⟩ := H
 have c6b0 : decide (2 < (t303.length : Int)) = true := decide_eq_true c6
 have c6b1 : decide (2 < t303.length) = true := decide_eq_true (by omega)
 clear c6
 replace H := it_ H
 obtain ⟨c7, H⟩ := H
 have c7b0 : (((rd_T25 t303 2).f1) == 4) = true := beq_iff_eq.mpr c7
 have c7b1 : (((rd_T25 t303 2).f1) != 4) = false := bne_eq_false_iff_eq.mpr c7
 clear c7
 replace H := it_ H
 obtain ⟨c8, H⟩ := H
 have c8b0 : ((((rd_T25 t303 2).f2).length : Int) == 1) = true := beq_iff_eq.mpr c8
 have c8b1 : ((((rd_T25 t303 2).f2).length : Int) != 1) = false := bne_eq_false_iff_eq.mpr c8
 clear c8
 replace H := Option.bind_eq_some_iff.mp H
 obtain ⟨⟨t319, t320, t323, t326⟩, A90, H⟩ := H
 replace H : (if 0 < (t303.length : Int) then ((upload_Receive.f k t319 t320 t323 ((rd_T25 t303 0).f0) ((rd_T25 t303 0).f1) ((rd_T25 t303 0).f2) ((rd_T25 t303 0).f3)).bind fun bt329 => (if 1 < (t303.length : Int) then ((upload_Receive.f k bt329.1 bt329.2.1 bt329.2.2.1 ((rd_T25 t303 1).f0) ((rd_T25 t303 1).f1) ((rd_T25 t303 1).f2) ((rd_T25 t303 1).f3)).bind fun bt339 => ((upload_New.f 0).bind fun bt348 => (if t326 = 0 then (if bt329.2.2.2 = 0 then (if bt339.2.2.2 = 0 then ((upload_Need.f t319 t320 t323).bind fun t357 => (if t357 = 0 then (if (t323.length : Int) = 1 then ((upload_Need.f bt329.1 bt329.2.1 bt329.2.2.1).bind fun t358 => (if t358 = 2 then (if (bt329.2.2.1.length : Int) = 1 then ((examboardlaw53_equal.f k bt339.2.1 y300).bind fun t359 => (if t359 = true then (if (bt339.2.2.1.length : Int) = 0 then (some (bt348.2.2.2 == 3)) else (none)) else (none))) else (none)) else (none))) else (none)) else (none))) else (none)) else (none)) else (none)))) else (none))) else (none)) = some r := H
 have A9 := am A90
 clear A90
 replace H := it_ H
 obtain ⟨c10, H⟩ := H
 have c10b0 : decide (0 < (t303.length : Int)) = true := decide_eq_true c10
 have c10b1 : decide (0 < t303.length) = true := decide_eq_true (by omega)
 clear c10
 replace H := Option.bind_eq_some_iff.mp H
 obtain ⟨⟨t329, t330, t333, t336⟩, A110, H⟩ := H
 replace H : (if 1 < (t303.length : Int) then ((upload_Receive.f k t329 t330 t333 ((rd_T25 t303 1).f0) ((rd_T25 t303 1).f1) ((rd_T25 t303 1).f2) ((rd_T25 t303 1).f3)).bind fun bt339 => ((upload_New.f 0).bind fun bt348 => (if t326 = 0 then (if t336 = 0 then (if bt339.2.2.2 = 0 then ((upload_Need.f t319 t320 t323).bind fun t357 => (if t357 = 0 then (if (t323.length : Int) = 1 then ((upload_Need.f t329 t330 t333).bind fun t358 => (if t358 = 2 then (if (t333.length : Int) = 1 then ((examboardlaw53_equal.f k bt339.2.1 y300).bind fun t359 => (if t359 = true then (if (bt339.2.2.1.length : Int) = 0 then (some (bt348.2.2.2 == 3)) else (none)) else (none))) else (none)) else (none))) else (none)) else (none))) else (none)) else (none)) else (none)))) else (none)) = some r := H
 have A11 := am A110
 clear A110
 replace H := it_ H
 obtain ⟨c12, H⟩ := H
 have c12b0 : decide (1 < (t303.length : Int)) = true := decide_eq_true c12
 have c12b1 : decide (1 < t303.length) = true := decide_eq_true (by omega)
 clear c12
 replace H := Option.bind_eq_some_iff.mp H
 obtain ⟨⟨t339, t340, t343, t346⟩, A130, H⟩ := H
 replace H : ((upload_New.f 0).bind fun bt348 => (if t326 = 0 then (if t336 = 0 then (if t346 = 0 then ((upload_Need.f t319 t320 t323).bind fun t357 => (if t357 = 0 then (if (t323.length : Int) = 1 then ((upload_Need.f t329 t330 t333).bind fun t358 => (if t358 = 2 then (if (t333.length : Int) = 1 then ((examboardlaw53_equal.f k t340 y300).bind fun t359 => (if t359 = true then (if (t343.length : Int) = 0 then (some (bt348.2.2.2 == 3)) else (none)) else (none))) else (none)) else (none))) else (none)) else (none))) else (none)) else (none)) else (none))) = some r := H
 have A13 := am A130
 clear A130
 replace H := Option.bind_eq_some_iff.mp H
 obtain ⟨⟨t348, t349, t352, t355⟩, A140, H⟩ := H
 replace H : (if t326 = 0 then (if t336 = 0 then (if t346 = 0 then ((upload_Need.f t319 t320 t323).bind fun t357 => (if t357 = 0 then (if (t323.length : Int) = 1 then ((upload_Need.f t329 t330 t333).bind fun t358 => (if t358 = 2 then (if (t333.length : Int) = 1 then ((examboardlaw53_equal.f k t340 y300).bind fun t359 => (if t359 = true then (if (t343.length : Int) = 0 then (some (t355 == 3)) else (none)) else (none))) else (none)) else (none))) else (none)) else (none))) else (none)) else (none)) else (none)) = some r := H
 have A14 := am A140
 clear A140
 replace H := it_ H
 obtain ⟨c15, H⟩ := H
 have c15b0 : (t326 == 0) = true := beq_iff_eq.mpr c15
 have c15b1 : (t326 != 0) = false := bne_eq_false_iff_eq.mpr c15
 clear c15
 replace H := it_ H
 obtain ⟨c16, H⟩ := H
 have c16b0 : (t336 == 0) = true := beq_iff_eq.mpr c16
 have c16b1 : (t336 != 0) = false := bne_eq_false_iff_eq.mpr c16
 clear c16
 replace H := it_ H
 obtain ⟨c17, H⟩ := H
 have c17b0 : (t346 == 0) = true := beq_iff_eq.mpr c17
 have c17b1 : (t346 != 0) = false := bne_eq_false_iff_eq.mpr c17
 clear c17
 replace H := Option.bind_eq_some_iff.mp H
 obtain ⟨t357, A180, H⟩ := H
 replace H : (if t357 = 0 then (if (t323.length : Int) = 1 then ((upload_Need.f t329 t330 t333).bind fun t358 => (if t358 = 2 then (if (t333.length : Int) = 1 then ((examboardlaw53_equal.f k t340 y300).bind fun t359 => (if t359 = true then (if (t343.length : Int) = 0 then (some (t355 == 3)) else (none)) else (none))) else (none)) else (none))) else (none)) else (none)) = some r := H
 have A18 := am A180
 clear A180
 replace H := it_ H
 obtain ⟨c19, H⟩ := H
 have c19b0 : (t357 == 0) = true := beq_iff_eq.mpr c19
 have c19b1 : (t357 != 0) = false := bne_eq_false_iff_eq.mpr c19
 clear c19
 replace H := it_ H
 obtain ⟨c20, H⟩ := H
 have c20b0 : ((t323.length : Int) == 1) = true := beq_iff_eq.mpr c20
 have c20b1 : ((t323.length : Int) != 1) = false := bne_eq_false_iff_eq.mpr c20
 clear c20
 replace H := Option.bind_eq_some_iff.mp H
 obtain ⟨t358, A210, H⟩ := H
 replace H : (if t358 = 2 then (if (t333.length : Int) = 1 then ((examboardlaw53_equal.f k t340 y300).bind fun t359 => (if t359 = true then (if (t343.length : Int) = 0 then (some (t355 == 3)) else (none)) else (none))) else (none)) else (none)) = some r := H
 have A21 := am A210
 clear A210
 replace H := it_ H
 obtain ⟨c22, H⟩ := H
 have c22b0 : (t358 == 2) = true := beq_iff_eq.mpr c22
 have c22b1 : (t358 != 2) = false := bne_eq_false_iff_eq.mpr c22
 clear c22
 replace H := it_ H
 obtain ⟨c23, H⟩ := H
 have c23b0 : ((t333.length : Int) == 1) = true := beq_iff_eq.mpr c23
 have c23b1 : ((t333.length : Int) != 1) = false := bne_eq_false_iff_eq.mpr c23
 clear c23
 replace H := Option.bind_eq_some_iff.mp H
 obtain ⟨t359, A240, H⟩ := H
 replace H : (if t359 = true then (if (t343.length : Int) = 0 then (some (t355 == 3)) else (none)) else (none)) = some r := H
 have A24 := am A240
 clear A240
 by_cases c25 : t359 = true
 ·
  subst c25
  have H1 : (if (t343.length : Int) = 0 then (some (t355 == 3)) else (none)) = some r := by rw [if_pos rfl] at H; exact H
  clear H
  have H := H1
  clear H1
  replace H := it_ H
  obtain ⟨c26, H⟩ := H
  have c26b0 : ((t343.length : Int) == 0) = true := beq_iff_eq.mpr c26
  have c26b1 : ((t343.length : Int) != 0) = false := bne_eq_false_iff_eq.mpr c26
  clear c26
  obtain rfl := Option.some.inj H
  go_enter Try.func18, Try.ntmps18
  try go_wp2_with (first | ((with_reducible refine gate_dst (N := 14) rfl ?_); (try (refine gate_guard (by rfl) ?_; dsimp only)); refine Kd.R_lit (Kd.int .u8) _ 5 ?hg (N := 14) ?hd (xs := ([1, 2, 3, 4, 5] : List Int)) (inner := [.int .u8 1, .int .u8 2, .int .u8 3, .int .u8 4, .int .u8 5]) (ok := fun _ => True) (okp := fun _ => True) ?hr ?hp (fun _ hk => hk) trivial (Below.refl _ _) (Nat.le_refl _) (by simp) ?_; (case hd => rfl); (case hg => rfl); (case hr => exact gz); (case hp => exact (Reps.one (show Kd.M (Kd.int .u8) _ _ _ 1 [.int .u8 1] from rfl) (Reps.one (show Kd.M (Kd.int .u8) _ _ _ 2 [.int .u8 2] from rfl) (Reps.one (show Kd.M (Kd.int .u8) _ _ _ 3 [.int .u8 3] from rfl) (Reps.one (show Kd.M (Kd.int .u8) _ _ _ 4 [.int .u8 4] from rfl) (Reps.one (show Kd.M (Kd.int .u8) _ _ _ 5 [.int .u8 5] from rfl) (Reps.none _ _))))))); intro v301 w27 ho28 hb hg_ hnew_; clear hg_ hnew_; (first | rw [← Ny300.out] at ho28 | (simp only [Int.reduceToNat] at ho28; rw [← Ny300.out] at ho28)); have HO302 := am (Kd.R_lower ho28 (below_size (hz HB.out))); replace HB := am (below_step (hz HB.out) hb); clear hb ho28; obtain ⟨Ao29, co29, eo29⟩ := Kd.R_slice HO302.out; subst eo29) | ((with_reducible refine gate_callee (f := 12) rfl ?_); refine goesL_ (some 17) rfl rfl Try.func12 (by kernel_rfl) rfl #[.int .i64 7, .slice Ao29 y300.length co29, .int .i64 2] rfl lz ?_; (with_reducible refine (upload_Split.calls k 7 _ _ y300 2 t303 t304 _ ?side1 ?side2 A1.out).mono ?_); (case side1 => repeat (first | exact (Kd.R_reads' HO302.out).2.2 | (with_reducible refine Kd.C_alloc ?_ _) | (with_reducible refine Kd.C_drewN ?_ _) | (with_reducible refine Kd.C_drew ?_))); (case side2 => exact (Kd.R_reads' HO302.out).2.1); rintro e w30 ⟨v305, rfl, ho0, hb⟩; refine ⟨_, rfl, ?_⟩; have HO306 := am (Kd.S_lower (Kd.S_new' ho0 (Kd.R_lt (rz HO302.out))) (below_size (hz HB.out))); replace HO302 := am (Kd.R_below (rz HO302.out) hb); replace HB := am (below_step (hz HB.out) hb); (try clear hb); (try clear hb2); (try clear hk); (try clear hi); (try clear ho0)) | ((with_reducible refine gate_callee (f := 14) rfl ?_); refine goesL_ (some 21) rfl rfl Try.func14 (by kernel_rfl) rfl #[.int .i64 7] rfl lz ?_; (with_reducible refine (upload_New.calls 7 t307 t308 t311 t314 _ A2.out).mono ?_); rintro e w31 ⟨v309, v312, rfl, ho0, ho1, hb⟩; refine ⟨_, rfl, ?_⟩; have HO310 := am (Kd.R_lower (Kd.R_new' ho0 (Kd.R_lt (rz HO302.out))) (below_size (hz HB.out))); have HO313 := am (Kd.S_lower (Kd.S_new' (Kd.S_new' ho1 (Kd.R_lt (rz HO302.out))) (Kd.S_lt (sz HO306.out))) (below_size (hz HB.out))); replace HO302 := am (Kd.R_elder' (rz HO302.out) (Kd.R_base ho0) hb); replace HO306 := am (Kd.S_mono (Kd.S_told (Kd.S_told (Kd.S_old (sz HO306.out) hb) (Kd.R_base ho0)) (Kd.S_base ho1)) (fun _ h_ => h_.1)); replace HB := am (below_step (hz HB.out) hb); (try clear hb); (try clear hb2); (try clear hk); (try clear hi); (try clear ho0); (try clear ho1)) | ((with_reducible refine gate_dst (N := 4) rfl ?_); (try (refine gate_guard (by rfl) ?_; dsimp only)); refine box_event ?hg (N := 4) ?hd (cs := #[.int .i64 0, .slice none 0 0, .slice none 0 0]) (t := 34) ?hr ?_; (case hd => rfl); (case hg => rfl); (case hr => exact gz); intro gb315 hg w32 hbox hb; replace HO302 := am (Kd.R_below (rz HO302.out) hb); replace HO306 := am (Kd.S_below (sz HO306.out) hb); replace HO310 := am (Kd.R_below (rz HO310.out) hb); replace HO313 := am (Kd.S_below (sz HO313.out) hb); have BK315 := am (hbox); have GW315 := am ((bs hg (hz HB.out) : w.heap.size ≤ gb315)); have GE315 := am ((bs hg (hz HB.out) : w.heap.size ≤ gb315)); replace HB := am (below_step (hz HB.out) hb); clear hb hbox hg; obtain ⟨hcz33_0, hcz33_1, hcz33_2⟩ := cs3 BK315.out; obtain ⟨hfz33_0, hfz33_1, hfz33_2⟩ := fs3 BK315.out; obtain ⟨Ao34, co34, eo34⟩ := Kd.R_slice HO310.out; subst eo34; obtain ⟨Ao35, co35, eo35⟩ := Kd.S_slice HO313.out; subst eo35) | ((with_reducible refine gate_store (t := 34) (p := 4) rfl ?_); refine store_event (t := 34) (p := 4) (v := ?vo_w36) (w1 := (((w32.setCell ⟨gb315, 0, none⟩ (.int .i64 t307)).setCell ⟨gb315, 1, none⟩ (.slice Ao34 t308.length co34)).setCell ⟨gb315, 2, none⟩ (.slice Ao35 t311.length co35))) ?hg ?ho ?hn ?hr ?_; (case ho => rfl); (case hg => rfl); (case hn => rfl); (case hr => exact gz); intro w36 hw; replace HO302 : Aside0 (Kd.R (Kd.int .u8) 5 w36 w.heap.size (fun k_ => some k_ ≠ (.slice Ao34 t308.length co34 : Value).ownBlock) (.slice Ao29 y300.length co29) y300) := ⟨(by rw [hw]; exact (rz (Kd.R_mono (rfg3 HO302.out BK315.out) (fun _ hk => hk.1.2))))⟩; replace HO306 : Aside0 (Kd.S k25 25 w36 w.heap.size (fun k_ => some k_ ≠ (.slice Ao29 y300.length co29 : Value).ownBlock ∧ some k_ ≠ (.slice Ao34 t308.length co34 : Value).ownBlock ∧ some k_ ≠ (.slice Ao35 t311.length co35 : Value).ownBlock) v305 t303) := ⟨(by rw [hw]; exact (sz (Kd.S_mono (sfg3 HO306.out BK315.out) (fun _ hk => ⟨hk.1.1.1.2, ⟨hk.1.1.2, hk.1.2⟩⟩))))⟩; replace HO310 : Aside0 (Kd.R (Kd.int .u8) 5 w36 w.heap.size (fun k_ => some k_ ≠ (.slice Ao29 y300.length co29 : Value).ownBlock) (.slice Ao34 t308.length co34) t308) := ⟨(by rw [hw]; exact (rz (Kd.R_mono (rfg3 HO310.out BK315.out) (fun _ hk => hk.1.2))))⟩; replace HO313 : Aside0 (Kd.S k25 25 w36 w.heap.size (fun k_ => some k_ ≠ (.slice Ao29 y300.length co29 : Value).ownBlock ∧ some k_ ≠ (v305 : Value).ownBlock ∧ some k_ ≠ (.slice Ao34 t308.length co34 : Value).ownBlock) (.slice Ao35 t311.length co35) t311) := ⟨(by rw [hw]; exact (sz (Kd.S_mono (sfg3 HO313.out BK315.out) (fun _ hk => ⟨hk.1.1.2, ⟨hk.1.2, hk.1.1.1⟩⟩))))⟩; replace BK315 : Aside0 (w36.heap[gb315]? = some (.cells #[.int .i64 t307, .slice Ao34 t308.length co34, .slice Ao35 t311.length co35] 34 (0, 0))) := ⟨(by rw [hw]; exact (by (with_reducible repeat (first | refine blk_drewN ?_ _ | refine blk_drew ?_ | refine blk_alloc ?_ _)); refine blk_put (cs := #[.int .i64 t307, .slice Ao34 t308.length co34, .slice none 0 0]) ?_ 2 _ rfl; (with_reducible repeat (first | refine blk_drewN ?_ _ | refine blk_drew ?_ | refine blk_alloc ?_ _)); refine blk_put (cs := #[.int .i64 t307, .slice none 0 0, .slice none 0 0]) ?_ 1 _ rfl; (with_reducible repeat (first | refine blk_drewN ?_ _ | refine blk_drew ?_ | refine blk_alloc ?_ _)); refine blk_put (cs := #[.int .i64 0, .slice none 0 0, .slice none 0 0]) ?_ 0 _ rfl; (with_reducible repeat (first | refine blk_drewN ?_ _ | refine blk_drew ?_ | refine blk_alloc ?_ _)); exact BK315.out))⟩; replace HB : Aside0 (Below w.heap.size w w36) := ⟨(by rw [hw]; exact (hz1 HB.out GE315.out))⟩; clear hw; obtain ⟨Ao37, co37, eo37⟩ := Kd.S_slice HO306.out; subst eo37; have p316 : 0 ≤ (2 : Int) := (by omega); have q316 : 2 < (t303.length : Int) := of_decide_eq_true az; obtain ⟨ad316, A316_2, c316_2, e316, hx316_0, hx316_1, hx316_2, hx316_3, hl316_2, hi316_2⟩ := at_T25 (Kd.S_reads' HO306.out).2.2 2 p316 q316; cases e316; obtain ⟨ce316, hce316, hMe316, hcc316⟩ := Kd.S_get HO306.out z25 2 p316 (by first | exact q316 | exact of_decide_eq_true az | (have e_ := (Kd.S_reads' HO306.out).1; omega)); obtain ⟨ve316_2, rfl, ge316_2⟩ := k25_openM hMe316; have hv316_2 := hcc316 2 _ rfl; rw [add_field _ _ 2 (by omega)] at hv316_2; replace hv316_2 := Option.some.inj (hv316_2.symm.trans hx316_2); rw [hv316_2] at ge316_2; have HL316_2 := am (show Kd.R (Kd.int .u8) 5 _ _ _ _ ((rd_T25 t303 2).f2) from ge316_2); clear hv316_2 ge316_2; clear hcc316 hce316; (try simp only [show (2 : Int).toNat = 2 from rfl, Nat.reduceMul, Nat.reduceEqDiff, Go.Addr.add, ↓reduceIte] at hx316_0); (try simp only [show (2 : Int).toNat = 2 from rfl, Nat.reduceMul, Nat.reduceEqDiff, Go.Addr.add, ↓reduceIte] at hx316_1); (try simp only [show (2 : Int).toNat = 2 from rfl, Nat.reduceMul, Nat.reduceEqDiff, Go.Addr.add, ↓reduceIte] at hx316_2); (try simp only [show (2 : Int).toNat = 2 from rfl, Nat.reduceMul, Nat.reduceEqDiff, Go.Addr.add, ↓reduceIte] at hx316_3); have qi316 : (2 < t303.length) = True := eq_true (by omega); (try rw [show ((2 : Int)).toNat = 2 from rfl] at hx316_0); (try rw [show 2 * 4 = 8 from rfl] at hx316_0); (try rw [show ((2 : Int)).toNat = 2 from rfl] at hx316_1); (try rw [show 2 * 4 = 8 from rfl] at hx316_1); (try rw [show ((2 : Int)).toNat = 2 from rfl] at hx316_2); (try rw [show 2 * 4 = 8 from rfl] at hx316_2); (try rw [show ((2 : Int)).toNat = 2 from rfl] at hx316_3); (try rw [show 2 * 4 = 8 from rfl] at hx316_3); have HR316_2 := am hi316_2; have HC316_2 := am hl316_2; clear hi316_2 hl316_2; replace p316 := eq_true p316; replace q316 := eq_true q316; have p317 : 0 ≤ (2 : Int) := (by omega); have q317 : 2 < (t303.length : Int) := of_decide_eq_true az; obtain ⟨ad317, A317_2, c317_2, e317, hx317_0, hx317_1, hx317_2, hx317_3, hl317_2, hi317_2⟩ := at_T25 (Kd.S_reads' HO306.out).2.2 2 p317 q317; obtain rfl : ad316 = ad317 := (by injection e317); obtain ⟨ce317, hce317, hMe317, hcc317⟩ := Kd.S_get HO306.out z25 2 p317 (by first | exact q317 | exact of_decide_eq_true az | (have e_ := (Kd.S_reads' HO306.out).1; omega)); obtain ⟨ve317_2, rfl, ge317_2⟩ := k25_openM hMe317; have hv317_2 := hcc317 2 _ rfl; rw [add_field _ _ 2 (by omega)] at hv317_2; replace hv317_2 := Option.some.inj (hv317_2.symm.trans hx317_2); rw [hv317_2] at ge317_2; have HL317_2 := am (show Kd.R (Kd.int .u8) 5 _ _ _ _ ((rd_T25 t303 2).f2) from ge317_2); clear hv317_2 ge317_2; clear hcc317 hce317; (try simp only [show (2 : Int).toNat = 2 from rfl, Nat.reduceMul, Nat.reduceEqDiff, Go.Addr.add, ↓reduceIte] at hx317_0); (try simp only [show (2 : Int).toNat = 2 from rfl, Nat.reduceMul, Nat.reduceEqDiff, Go.Addr.add, ↓reduceIte] at hx317_1); (try simp only [show (2 : Int).toNat = 2 from rfl, Nat.reduceMul, Nat.reduceEqDiff, Go.Addr.add, ↓reduceIte] at hx317_2); (try simp only [show (2 : Int).toNat = 2 from rfl, Nat.reduceMul, Nat.reduceEqDiff, Go.Addr.add, ↓reduceIte] at hx317_3); have qi317 : (2 < t303.length) = True := eq_true (by omega); (try rw [show ((2 : Int)).toNat = 2 from rfl] at hx317_0); (try rw [show 2 * 4 = 8 from rfl] at hx317_0); (try rw [show ((2 : Int)).toNat = 2 from rfl] at hx317_1); (try rw [show 2 * 4 = 8 from rfl] at hx317_1); (try rw [show ((2 : Int)).toNat = 2 from rfl] at hx317_2); (try rw [show 2 * 4 = 8 from rfl] at hx317_2); (try rw [show ((2 : Int)).toNat = 2 from rfl] at hx317_3); (try rw [show 2 * 4 = 8 from rfl] at hx317_3); have HR317_2 := am hi317_2; have HC317_2 := am hl317_2; clear hi317_2 hl317_2; replace p317 := eq_true p317; replace q317 := eq_true q317; have ea_ := Option.some.inj (hx316_2.symm.trans hx317_2); injection ea_ with ea_ en_ ec_; subst ea_; subst ec_; clear en_))
  replace HO302 := am (Kd.R_drew HO302.out)
  replace HO306 := am (Kd.S_drew HO306.out)
  replace HO310 := am (Kd.R_drew HO310.out)
  replace HO313 := am (Kd.S_drew HO313.out)
  replace HL316_2 := am (Kd.R_drew HL316_2.out)
  replace HL317_2 := am (Kd.R_drew HL317_2.out)
  replace BK315 := am (blk_drew BK315.out)
  replace HR316_2 := am (Kd.C_drew HR316_2.out)
  replace HR317_2 := am (Kd.C_drew HR317_2.out)
  replace HB := am (below_drew1 HB.out)
  have p318 : 0 ≤ (2 : Int) := (by omega)
  have q318 : 2 < (t303.length : Int) := of_decide_eq_true az
  obtain ⟨ad318, A318_2, c318_2, e318, hx318_0, hx318_1, hx318_2, hx318_3, hl318_2, hi318_2⟩ := at_T25 (Kd.S_reads' HO306.out).2.2 2 p318 q318
  obtain rfl : ad316 = ad318 := (by injection e318)
  obtain ⟨ce318, hce318, hMe318, hcc318⟩ := Kd.S_get HO306.out z25 2 p318 (by first | exact q318 | exact of_decide_eq_true az | (have e_ := (Kd.S_reads' HO306.out).1; omega))
  obtain ⟨ve318_2, rfl, ge318_2⟩ := k25_openM hMe318
  have hv318_2 := hcc318 2 _ rfl
  rw [add_field _ _ 2 (by omega)] at hv318_2
  replace hv318_2 := Option.some.inj (hv318_2.symm.trans hx318_2)
  rw [hv318_2] at ge318_2
  have HL318_2 := am (show Kd.R (Kd.int .u8) 5 _ _ _ _ ((rd_T25 t303 2).f2) from ge318_2)
  clear hv318_2 ge318_2
  clear hcc318 hce318
  (try simp only [show (2 : Int).toNat = 2 from rfl, Nat.reduceMul, Nat.reduceEqDiff, Go.Addr.add, ↓reduceIte] at hx318_0)
  (try simp only [show (2 : Int).toNat = 2 from rfl, Nat.reduceMul, Nat.reduceEqDiff, Go.Addr.add, ↓reduceIte] at hx318_1)
  (try simp only [show (2 : Int).toNat = 2 from rfl, Nat.reduceMul, Nat.reduceEqDiff, Go.Addr.add, ↓reduceIte] at hx318_2)
  (try simp only [show (2 : Int).toNat = 2 from rfl, Nat.reduceMul, Nat.reduceEqDiff, Go.Addr.add, ↓reduceIte] at hx318_3)
  have qi318 : (2 < t303.length) = True := eq_true (by omega)
  (try rw [show ((2 : Int)).toNat = 2 from rfl] at hx318_0)
  (try rw [show 2 * 4 = 8 from rfl] at hx318_0)
  (try rw [show ((2 : Int)).toNat = 2 from rfl] at hx318_1)
  (try rw [show 2 * 4 = 8 from rfl] at hx318_1)
  (try rw [show ((2 : Int)).toNat = 2 from rfl] at hx318_2)
  (try rw [show 2 * 4 = 8 from rfl] at hx318_2)
  (try rw [show ((2 : Int)).toNat = 2 from rfl] at hx318_3)
  (try rw [show 2 * 4 = 8 from rfl] at hx318_3)
  have HR318_2 := am hi318_2
  have HC318_2 := am hl318_2
  clear hi318_2 hl318_2
  replace p318 := eq_true p318
  replace q318 := eq_true q318
  refine start_ (n := 11) (S := fun w' => w'.cell? ⟨gb315, 0, none⟩ = some (.int .i64 t307) ∧ w'.cell? ⟨gb315, 1, none⟩ = some (.slice Ao34 t308.length co34) ∧ w'.cell? ⟨gb315, 2, none⟩ = some (.slice Ao35 t311.length co35) ∧ w'.cell? ⟨ad316.block, ad316.off + 8, none⟩ = some (.int .i64 ((rd_T25 t303 2).f0)) ∧ w'.cell? ⟨ad316.block, ad316.off + 8 + 1, none⟩ = some (.int .i64 ((rd_T25 t303 2).f1)) ∧ w'.cell? ⟨ad316.block, ad316.off + 8 + 2, none⟩ = some (.slice A318_2 ((rd_T25 t303 2).f2).length c318_2) ∧ w'.cell? ⟨ad316.block, ad316.off + 8 + 3, none⟩ = some (.int .u64 ((rd_T25 t303 2).f3))) (ds := []) #[false, false, false, false, false, false, false, false, false, false, false] (by kernel_rfl) rfl rfl ⟨(blk_cell BK315.out 0).trans rfl, (blk_cell BK315.out 1).trans rfl, (blk_cell BK315.out 2).trans rfl, hx318_0, hx318_1, hx318_2, hx318_3⟩ (fun hHeld => ?_); refine with_tabW examboardlaw53_awake.tab6 examboardlaw53_awake.bits6 (fun HT_ HW_ => ?_)
  generalize w36.drew = w38 at HO302 HO306 HO310 HO313 HL316_2 HL317_2 BK315 HR316_2 HR317_2 HB HL318_2 HR318_2 hx318_0 hx318_1 hx318_2 hx318_3 hHeld ⊢
  refine pz 1 52 HT_.out ?_
  refine pz 2 53 HT_.out ?_
  refine tz7 0 51 HT_.out HW_.out hHeld ?_
  refine tz7 3 54 HT_.out HW_.out hHeld ?_
  refine join_ (σ := Value × Value × Nat) 2 #[true, true, true, true, true, true, true, true, true, false, false] (fun s_ => [(55, .tuple #[.agg #[.int .i64 t319, s_.1, s_.2.1], .int .i64 t326]), (6, .pointer (some ⟨s_.2.2, 0, none⟩)), (50, .tuple #[.agg #[.int .i64 t319, s_.1, s_.2.1], .int .i64 t326]), (56, .agg #[.int .i64 t319, s_.1, s_.2.1]), (57, .int .i64 t326)]) (fun s_ w' => (w'.cell? ⟨gb315, 0, none⟩ = some (.int .i64 t307) ∧ w'.cell? ⟨gb315, 1, none⟩ = some (.slice Ao34 t308.length co34) ∧ w'.cell? ⟨gb315, 2, none⟩ = some (.slice Ao35 t311.length co35) ∧ w'.cell? ⟨ad316.block, ad316.off + 8, none⟩ = some (.int .i64 ((rd_T25 t303 2).f0)) ∧ w'.cell? ⟨ad316.block, ad316.off + 8 + 1, none⟩ = some (.int .i64 ((rd_T25 t303 2).f1)) ∧ w'.cell? ⟨ad316.block, ad316.off + 8 + 2, none⟩ = some (.slice A318_2 ((rd_T25 t303 2).f2).length c318_2) ∧ w'.cell? ⟨ad316.block, ad316.off + 8 + 3, none⟩ = some (.int .u64 ((rd_T25 t303 2).f3))) ∧ (Kd.R (Kd.int .u8) 5 w' w.heap.size (fun k_ => some k_ ≠ (.slice Ao29 y300.length co29 : Value).ownBlock ∧ some k_ ≠ (.slice (some ad316) t303.length co37 : Value).ownBlock ∧ some k_ ≠ (.slice Ao34 t308.length co34 : Value).ownBlock ∧ some k_ ≠ (.slice Ao35 t311.length co35 : Value).ownBlock ∧ some k_ ≠ (s_.1 : Value).ownBlock) (.slice A316_2 ((rd_T25 t303 2).f2).length c316_2) ((rd_T25 t303 2).f2)) ∧ (Kd.R (Kd.int .u8) 5 w' w.heap.size (fun k_ => some k_ ≠ (.slice Ao29 y300.length co29 : Value).ownBlock ∧ some k_ ≠ (.slice (some ad316) t303.length co37 : Value).ownBlock ∧ some k_ ≠ (.slice Ao34 t308.length co34 : Value).ownBlock ∧ some k_ ≠ (.slice Ao35 t311.length co35 : Value).ownBlock ∧ some k_ ≠ (s_.1 : Value).ownBlock) (.slice A316_2 ((rd_T25 t303 2).f2).length c316_2) ((rd_T25 t303 2).f2)) ∧ (Kd.R (Kd.int .u8) 5 w' w.heap.size (fun k_ => some k_ ≠ (.slice Ao29 y300.length co29 : Value).ownBlock ∧ some k_ ≠ (.slice (some ad316) t303.length co37 : Value).ownBlock ∧ some k_ ≠ (.slice Ao34 t308.length co34 : Value).ownBlock ∧ some k_ ≠ (.slice Ao35 t311.length co35 : Value).ownBlock ∧ some k_ ≠ (s_.1 : Value).ownBlock) (.slice A318_2 ((rd_T25 t303 2).f2).length c318_2) ((rd_T25 t303 2).f2)) ∧ (Kd.R (Kd.int .u8) 5 w' w.heap.size (fun k_ => some k_ ≠ (.slice Ao34 t308.length co34 : Value).ownBlock ∧ some k_ ≠ (s_.1 : Value).ownBlock) (.slice Ao29 y300.length co29) y300) ∧ (Kd.S k25 25 w' w.heap.size (fun k_ => some k_ ≠ (.slice Ao29 y300.length co29 : Value).ownBlock ∧ some k_ ≠ (.slice Ao34 t308.length co34 : Value).ownBlock ∧ some k_ ≠ (.slice Ao35 t311.length co35 : Value).ownBlock ∧ some k_ ≠ (s_.1 : Value).ownBlock ∧ some k_ ≠ (s_.2.1 : Value).ownBlock) (.slice (some ad316) t303.length co37) t303) ∧ (Kd.R (Kd.int .u8) 5 w' w.heap.size (fun k_ => some k_ ≠ (.slice Ao29 y300.length co29 : Value).ownBlock ∧ some k_ ≠ (s_.1 : Value).ownBlock) (.slice Ao34 t308.length co34) t308) ∧ (Kd.S k25 25 w' w.heap.size (fun k_ => some k_ ≠ (.slice Ao29 y300.length co29 : Value).ownBlock ∧ some k_ ≠ (.slice (some ad316) t303.length co37 : Value).ownBlock ∧ some k_ ≠ (.slice Ao34 t308.length co34 : Value).ownBlock ∧ some k_ ≠ (s_.1 : Value).ownBlock ∧ some k_ ≠ (s_.2.1 : Value).ownBlock) (.slice Ao35 t311.length co35) t311) ∧ (Kd.R (Kd.int .u8) 5 w' w.heap.size (fun k_ => some k_ ≠ (.slice A316_2 ((rd_T25 t303 2).f2).length c316_2 : Value).ownBlock ∧ some k_ ≠ (.slice A316_2 ((rd_T25 t303 2).f2).length c316_2 : Value).ownBlock ∧ some k_ ≠ (.slice A318_2 ((rd_T25 t303 2).f2).length c318_2 : Value).ownBlock ∧ some k_ ≠ (.slice Ao29 y300.length co29 : Value).ownBlock ∧ some k_ ≠ (.slice Ao34 t308.length co34 : Value).ownBlock) s_.1 t320) ∧ (Kd.S k25 25 w' w.heap.size (fun k_ => some k_ ≠ (.slice A316_2 ((rd_T25 t303 2).f2).length c316_2 : Value).ownBlock ∧ some k_ ≠ (.slice A316_2 ((rd_T25 t303 2).f2).length c316_2 : Value).ownBlock ∧ some k_ ≠ (.slice A318_2 ((rd_T25 t303 2).f2).length c318_2 : Value).ownBlock ∧ some k_ ≠ (.slice Ao29 y300.length co29 : Value).ownBlock ∧ some k_ ≠ (.slice (some ad316) t303.length co37 : Value).ownBlock ∧ some k_ ≠ (.slice Ao34 t308.length co34 : Value).ownBlock ∧ some k_ ≠ (.slice Ao35 t311.length co35 : Value).ownBlock ∧ some k_ ≠ (s_.1 : Value).ownBlock) s_.2.1 t323) ∧ (w'.heap[gb315]? = some (.cells #[.int .i64 t307, .slice Ao34 t308.length co34, .slice Ao35 t311.length co35] 34 (0, 0))) ∧ (w'.heap[s_.2.2]? = some (.cells #[.int .i64 0, .slice none 0 0, .slice none 0 0] 34 (0, 0))) ∧ (w.heap.size ≤ s_.2.2) ∧ (w.heap.size ≤ s_.2.2) ∧ (gb315 ≠ s_.2.2) ∧ (s_.2.2 ≠ gb315) ∧ (Below w.heap.size w w')) ?_ ?_
  rotate_left
  ·
   intro hCont
   refine two_ (i := 4) (j := 8) (Ni := some 55) (Nj := some 6) #[true, true, true, true, true, false, false, false, false, false, false] #[true, true, true, true, false, false, false, false, true, false, false] rfl rfl rfl rfl (two_of HT_.out (by kernel_rfl)) (by decide) (by decide) (fun K hK => ?_) (fun K hK => ?_)
   ·
    skip
    refine goes_ Try.func20 (by kernel_rfl) rfl #[.agg #[.int .i64 t307, .slice Ao34 t308.length co34, .slice Ao35 t311.length co35], .agg #[.int .i64 ((rd_T25 t303 2).f0), .int .i64 ((rd_T25 t303 2).f1), .slice A318_2 ((rd_T25 t303 2).f2).length c318_2, .int .u64 ((rd_T25 t303 2).f3)]] (by rfl) rfl rfl lz ?_
    with_reducible refine (upload_Receive.calls k t307 _ _ t308 _ _ t311 ((rd_T25 t303 2).f0) ((rd_T25 t303 2).f1) _ _ ((rd_T25 t303 2).f2) ((rd_T25 t303 2).f3) t319 t320 t323 t326 _ ?side1 ?side2 ?side3 ?side4 ?side5 ?side6 A9.out).mono ?_
    (case side1 => repeat (first | exact (Kd.R_reads' HO310.out).2.2 | (with_reducible refine Kd.C_alloc ?_ _) | (with_reducible refine Kd.C_drewN ?_ _) | (with_reducible refine Kd.C_drew ?_)))
    (case side2 => exact (Kd.R_reads' HO310.out).2.1)
    (case side3 => repeat (first | exact (Kd.S_reads' HO313.out).2.2 | (with_reducible refine Kd.C_alloc ?_ _) | (with_reducible refine Kd.C_drewN ?_ _) | (with_reducible refine Kd.C_drew ?_)))
    (case side4 => exact (Kd.S_reads' HO313.out).2.1)
    (case side5 => repeat (first | exact (cz HR318_2.out) | (with_reducible refine Kd.C_alloc ?_ _) | (with_reducible refine Kd.C_drewN ?_ _) | (with_reducible refine Kd.C_drew ?_)))
    (case side6 => exact HC318_2.out)
    rintro e w39 ⟨v321, v324, rfl, ho0, ho1, hb⟩
    have HS3_ := (hb.cell (World.block_lt_of_cell? _ _ (hHeld.2.2.2.1))).trans (hHeld.2.2.2.1)
    have HS4_ := (hb.cell (World.block_lt_of_cell? _ _ (hHeld.2.2.2.2.1))).trans (hHeld.2.2.2.2.1)
    have HS5_ := (hb.cell (World.block_lt_of_cell? _ _ (hHeld.2.2.2.2.2.1))).trans (hHeld.2.2.2.2.2.1)
    have HS6_ := (hb.cell (World.block_lt_of_cell? _ _ (hHeld.2.2.2.2.2.2))).trans (hHeld.2.2.2.2.2.2)
    refine ⟨_, rfl, ?_⟩
    have HO322 := am (Kd.R_lower (Kd.R_new' (Kd.R_new' (Kd.R_new' (Kd.R_new' (Kd.R_new' ho0 (Kd.R_lt (rz HO302.out))) (Kd.R_lt (rz HO310.out))) (Kd.R_lt (rz HL316_2.out))) (Kd.R_lt (rz HL317_2.out))) (Kd.R_lt (rz HL318_2.out))) (below_size (hz1 HB.out GE315.out)))
    have HO325 := am (Kd.S_lower (Kd.S_new' (Kd.S_new' (Kd.S_new' (Kd.S_new' (Kd.S_new' (Kd.S_new' (Kd.S_new' ho1 (Kd.R_lt (rz HO302.out))) (Kd.S_lt (sz HO306.out))) (Kd.R_lt (rz HO310.out))) (Kd.S_lt (sz HO313.out))) (Kd.R_lt (rz HL316_2.out))) (Kd.R_lt (rz HL317_2.out))) (Kd.R_lt (rz HL318_2.out))) (below_size (hz1 HB.out GE315.out)))
    replace HO302 := am (Kd.R_elder' (rz HO302.out) (Kd.R_base ho0) hb)
    replace HO306 := am (Kd.S_mono (Kd.S_told (Kd.S_told (Kd.S_old (sz HO306.out) hb) (Kd.R_base ho0)) (Kd.S_base ho1)) (fun _ h_ => h_.1))
    replace HO310 := am (Kd.R_elder' (rz HO310.out) (Kd.R_base ho0) hb)
    replace HO313 := am (Kd.S_mono (Kd.S_told (Kd.S_told (Kd.S_old (sz HO313.out) hb) (Kd.R_base ho0)) (Kd.S_base ho1)) (fun _ h_ => h_.1))
    replace HL316_2 := am (Kd.R_elder' (rz HL316_2.out) (Kd.R_base ho0) hb)
    replace HL317_2 := am (Kd.R_elder' (rz HL317_2.out) (Kd.R_base ho0) hb)
    replace HL318_2 := am (Kd.R_elder' (rz HL318_2.out) (Kd.R_base ho0) hb)
    replace BK315 := am (blk_below (bz BK315.out) hb)
    replace HR316_2 := am (Kd.C_below (cz HR316_2.out) hb)
    replace HR317_2 := am (Kd.C_below (cz HR317_2.out) hb)
    replace HR318_2 := am (Kd.C_below (cz HR318_2.out) hb)
    replace HB := am (below_step (hz1 HB.out GE315.out) hb)
    (try clear hb)
    (try clear hb2)
    (try clear hk)
    (try clear hi)
    (try clear ho0)
    (try clear ho1)
    refine hK.out _ _ ⟨(blk_cell BK315.out 0).trans rfl, (blk_cell BK315.out 1).trans rfl, (blk_cell BK315.out 2).trans rfl, HS3_, HS4_, HS5_, HS6_⟩ (fun hHeld => ?_)
    clear hK K
    refine norm_ (a' := ?_) ?_ ?_
    rotate_left
    ·
     show Act.put _ (some 55) _ = _
     simp only [Act.put, List.setIfInBounds_toArray, List.set_cons_zero, List.set_cons_succ, i64_w, i32_w]
     rfl
    refine pz 5 50 HT_.out ?_
    refine pz 6 56 HT_.out ?_
    refine pz 7 57 HT_.out ?_
    refine oz 8 6 HT_.out (fun K hK => ?_)
    refine box_step ?hg (N := 6) ?hd (cs := #[.int .i64 0, .slice none 0 0, .slice none 0 0]) (t := 34) ?hr ?_; (case hd => rfl); (case hg => rfl); (case hr => exact gz)
    intro gb327 hg w40 hbox hb
    have HS3_ := (hb.cell (World.block_lt_of_cell? _ _ (hHeld.2.2.2.1))).trans (hHeld.2.2.2.1)
    have HS4_ := (hb.cell (World.block_lt_of_cell? _ _ (hHeld.2.2.2.2.1))).trans (hHeld.2.2.2.2.1)
    have HS5_ := (hb.cell (World.block_lt_of_cell? _ _ (hHeld.2.2.2.2.2.1))).trans (hHeld.2.2.2.2.2.1)
    have HS6_ := (hb.cell (World.block_lt_of_cell? _ _ (hHeld.2.2.2.2.2.2))).trans (hHeld.2.2.2.2.2.2)
    replace HO302 := am (Kd.R_below (rz HO302.out) hb)
    replace HO306 := am (Kd.S_below (sz HO306.out) hb)
    replace HO310 := am (Kd.R_below (rz HO310.out) hb)
    replace HO313 := am (Kd.S_below (sz HO313.out) hb)
    replace HL316_2 := am (Kd.R_below (rz HL316_2.out) hb)
    replace HL317_2 := am (Kd.R_below (rz HL317_2.out) hb)
    replace HL318_2 := am (Kd.R_below (rz HL318_2.out) hb)
    replace HO322 := am (Kd.R_below (rz HO322.out) hb)
    replace HO325 := am (Kd.S_below (sz HO325.out) hb)
    replace HR316_2 := am (Kd.C_below (cz HR316_2.out) hb)
    replace HR317_2 := am (Kd.C_below (cz HR317_2.out) hb)
    replace HR318_2 := am (Kd.C_below (cz HR318_2.out) hb)
    have BK327 := am (hbox)
    have GW327 := am ((bs hg (hz1 HB.out GE315.out) : w.heap.size ≤ gb327))
    have GE327 := am ((bs hg (hz1 HB.out GE315.out) : w.heap.size ≤ gb327))
    replace HB := am (below_step (hz1 HB.out GE315.out) hb)
    have NB315_327 := am ((nl hg (bz BK315.out) : gb315 ≠ gb327))
    have NB327_315 := am ((ng hg (bz BK315.out) : gb327 ≠ gb315))
    replace BK315 := am (blk_below (bz BK315.out) hb)
    clear hb hbox hg
    refine hK.out _ _ ⟨(blk_cell BK315.out 0).trans rfl, (blk_cell BK315.out 1).trans rfl, (blk_cell BK315.out 2).trans rfl, HS3_, HS4_, HS5_, HS6_⟩ (fun hHeld => ?_)
    clear hK K
    refine norm_ (a' := ?_) ?_ ?_
    rotate_left
    ·
     show Act.put _ (some 6) _ = _
     simp only [Act.put, List.setIfInBounds_toArray, List.set_cons_zero, List.set_cons_succ, i64_w, i32_w]
     rfl
    exact norm_ (by simp only [putAll, Act.put, List.setIfInBounds_toArray, List.set_cons_zero, List.set_cons_succ]) (hCont (v321, v324, gb327) _ ⟨hHeld, (rz (Kd.R_mono HL316_2.out (fun _ hk => ⟨hk.1.1.1, ⟨hk.1.2, ⟨hk.1.1.2.1, ⟨hk.1.1.2.2, hk.2⟩⟩⟩⟩))), (rz (Kd.R_mono HL317_2.out (fun _ hk => ⟨hk.1.1.1, ⟨hk.1.2, ⟨hk.1.1.2.1, ⟨hk.1.1.2.2, hk.2⟩⟩⟩⟩))), (rz (Kd.R_mono HL318_2.out (fun _ hk => ⟨hk.1.1.1, ⟨hk.1.2, ⟨hk.1.1.2.1, ⟨hk.1.1.2.2, hk.2⟩⟩⟩⟩))), (rz HO302.out), (sz (Kd.S_mono HO306.out (fun _ hk => ⟨hk.1.1.1, ⟨hk.1.1.2.1, ⟨hk.1.1.2.2, ⟨hk.1.2, hk.2⟩⟩⟩⟩))), (rz HO310.out), (sz (Kd.S_mono HO313.out (fun _ hk => ⟨hk.1.1.1, ⟨hk.1.1.2.1, ⟨hk.1.1.2.2, ⟨hk.1.2, hk.2⟩⟩⟩⟩))), (rz (Kd.R_mono HO322.out (fun _ hk => ⟨hk.1.1.2, ⟨hk.1.2, ⟨hk.2, ⟨hk.1.1.1.1.2, hk.1.1.1.2⟩⟩⟩⟩))), (sz (Kd.S_mono HO325.out (fun _ hk => ⟨hk.1.1.2, ⟨hk.1.2, ⟨hk.2, ⟨hk.1.1.1.1.1.1.2, ⟨hk.1.1.1.1.1.2, ⟨hk.1.1.1.1.2, ⟨hk.1.1.1.2, hk.1.1.1.1.1.1.1⟩⟩⟩⟩⟩⟩⟩))), (bz BK315.out), (bz BK327.out), GW327.out, GE327.out, NB315_327.out, NB327_315.out, (hz2 HB.out GE315.out GE327.out)⟩)
   ·
    skip
    refine box_step ?hg (N := 6) ?hd (cs := #[.int .i64 0, .slice none 0 0, .slice none 0 0]) (t := 34) ?hr ?_; (case hd => rfl); (case hg => rfl); (case hr => exact gz)
    intro gb327 hg w39 hbox hb
    have HS3_ := (hb.cell (World.block_lt_of_cell? _ _ (hHeld.2.2.2.1))).trans (hHeld.2.2.2.1)
    have HS4_ := (hb.cell (World.block_lt_of_cell? _ _ (hHeld.2.2.2.2.1))).trans (hHeld.2.2.2.2.1)
    have HS5_ := (hb.cell (World.block_lt_of_cell? _ _ (hHeld.2.2.2.2.2.1))).trans (hHeld.2.2.2.2.2.1)
    have HS6_ := (hb.cell (World.block_lt_of_cell? _ _ (hHeld.2.2.2.2.2.2))).trans (hHeld.2.2.2.2.2.2)
    replace HO302 := am (Kd.R_below (rz HO302.out) hb)
    replace HO306 := am (Kd.S_below (sz HO306.out) hb)
    replace HO310 := am (Kd.R_below (rz HO310.out) hb)
    replace HO313 := am (Kd.S_below (sz HO313.out) hb)
    replace HL316_2 := am (Kd.R_below (rz HL316_2.out) hb)
    replace HL317_2 := am (Kd.R_below (rz HL317_2.out) hb)
    replace HL318_2 := am (Kd.R_below (rz HL318_2.out) hb)
    replace HR316_2 := am (Kd.C_below (cz HR316_2.out) hb)
    replace HR317_2 := am (Kd.C_below (cz HR317_2.out) hb)
    replace HR318_2 := am (Kd.C_below (cz HR318_2.out) hb)
    have BK327 := am (hbox)
    have GW327 := am ((bs hg (hz1 HB.out GE315.out) : w.heap.size ≤ gb327))
    have GE327 := am ((bs hg (hz1 HB.out GE315.out) : w.heap.size ≤ gb327))
    replace HB := am (below_step (hz1 HB.out GE315.out) hb)
    have NB315_327 := am ((nl hg (bz BK315.out) : gb315 ≠ gb327))
    have NB327_315 := am ((ng hg (bz BK315.out) : gb327 ≠ gb315))
    replace BK315 := am (blk_below (bz BK315.out) hb)
    clear hb hbox hg
    refine hK.out _ _ ⟨(blk_cell BK315.out 0).trans rfl, (blk_cell BK315.out 1).trans rfl, (blk_cell BK315.out 2).trans rfl, HS3_, HS4_, HS5_, HS6_⟩ (fun hHeld => ?_)
    clear hK K
    refine norm_ (a' := ?_) ?_ ?_
    rotate_left
    ·
     show Act.put _ (some 6) _ = _
     simp only [Act.put, List.setIfInBounds_toArray, List.set_cons_zero, List.set_cons_succ, i64_w, i32_w]
     rfl
    refine oz 4 55 HT_.out (fun K hK => ?_)
    refine goes_ Try.func20 (by kernel_rfl) rfl #[.agg #[.int .i64 t307, .slice Ao34 t308.length co34, .slice Ao35 t311.length co35], .agg #[.int .i64 ((rd_T25 t303 2).f0), .int .i64 ((rd_T25 t303 2).f1), .slice A318_2 ((rd_T25 t303 2).f2).length c318_2, .int .u64 ((rd_T25 t303 2).f3)]] (by rfl) rfl rfl lz ?_
    with_reducible refine (upload_Receive.calls k t307 _ _ t308 _ _ t311 ((rd_T25 t303 2).f0) ((rd_T25 t303 2).f1) _ _ ((rd_T25 t303 2).f2) ((rd_T25 t303 2).f3) t319 t320 t323 t326 _ ?side1 ?side2 ?side3 ?side4 ?side5 ?side6 A9.out).mono ?_
    (case side1 => repeat (first | exact (Kd.R_reads' HO310.out).2.2 | (with_reducible refine Kd.C_alloc ?_ _) | (with_reducible refine Kd.C_drewN ?_ _) | (with_reducible refine Kd.C_drew ?_)))
    (case side2 => exact (Kd.R_reads' HO310.out).2.1)
    (case side3 => repeat (first | exact (Kd.S_reads' HO313.out).2.2 | (with_reducible refine Kd.C_alloc ?_ _) | (with_reducible refine Kd.C_drewN ?_ _) | (with_reducible refine Kd.C_drew ?_)))
    (case side4 => exact (Kd.S_reads' HO313.out).2.1)
    (case side5 => repeat (first | exact (cz HR318_2.out) | (with_reducible refine Kd.C_alloc ?_ _) | (with_reducible refine Kd.C_drewN ?_ _) | (with_reducible refine Kd.C_drew ?_)))
    (case side6 => exact HC318_2.out)
    rintro e w40 ⟨v321, v324, rfl, ho0, ho1, hb⟩
    have HS3_ := (hb.cell (World.block_lt_of_cell? _ _ (hHeld.2.2.2.1))).trans (hHeld.2.2.2.1)
    have HS4_ := (hb.cell (World.block_lt_of_cell? _ _ (hHeld.2.2.2.2.1))).trans (hHeld.2.2.2.2.1)
    have HS5_ := (hb.cell (World.block_lt_of_cell? _ _ (hHeld.2.2.2.2.2.1))).trans (hHeld.2.2.2.2.2.1)
    have HS6_ := (hb.cell (World.block_lt_of_cell? _ _ (hHeld.2.2.2.2.2.2))).trans (hHeld.2.2.2.2.2.2)
    refine ⟨_, rfl, ?_⟩
    have HO322 := am (Kd.R_lower (Kd.R_new' (Kd.R_new' (Kd.R_new' (Kd.R_new' (Kd.R_new' ho0 (Kd.R_lt (rz HO302.out))) (Kd.R_lt (rz HO310.out))) (Kd.R_lt (rz HL316_2.out))) (Kd.R_lt (rz HL317_2.out))) (Kd.R_lt (rz HL318_2.out))) (below_size (hz2 HB.out GE315.out GE327.out)))
    have HO325 := am (Kd.S_lower (Kd.S_new' (Kd.S_new' (Kd.S_new' (Kd.S_new' (Kd.S_new' (Kd.S_new' (Kd.S_new' ho1 (Kd.R_lt (rz HO302.out))) (Kd.S_lt (sz HO306.out))) (Kd.R_lt (rz HO310.out))) (Kd.S_lt (sz HO313.out))) (Kd.R_lt (rz HL316_2.out))) (Kd.R_lt (rz HL317_2.out))) (Kd.R_lt (rz HL318_2.out))) (below_size (hz2 HB.out GE315.out GE327.out)))
    replace HO302 := am (Kd.R_elder' (rz HO302.out) (Kd.R_base ho0) hb)
    replace HO306 := am (Kd.S_mono (Kd.S_told (Kd.S_told (Kd.S_old (sz HO306.out) hb) (Kd.R_base ho0)) (Kd.S_base ho1)) (fun _ h_ => h_.1))
    replace HO310 := am (Kd.R_elder' (rz HO310.out) (Kd.R_base ho0) hb)
    replace HO313 := am (Kd.S_mono (Kd.S_told (Kd.S_told (Kd.S_old (sz HO313.out) hb) (Kd.R_base ho0)) (Kd.S_base ho1)) (fun _ h_ => h_.1))
    replace HL316_2 := am (Kd.R_elder' (rz HL316_2.out) (Kd.R_base ho0) hb)
    replace HL317_2 := am (Kd.R_elder' (rz HL317_2.out) (Kd.R_base ho0) hb)
    replace HL318_2 := am (Kd.R_elder' (rz HL318_2.out) (Kd.R_base ho0) hb)
    replace BK315 := am (blk_below (bz BK315.out) hb)
    replace HR316_2 := am (Kd.C_below (cz HR316_2.out) hb)
    replace HR317_2 := am (Kd.C_below (cz HR317_2.out) hb)
    replace HR318_2 := am (Kd.C_below (cz HR318_2.out) hb)
    replace BK327 := am (blk_below (bz BK327.out) hb)
    replace HB := am (below_step (hz2 HB.out GE315.out GE327.out) hb)
    (try clear hb)
    (try clear hb2)
    (try clear hk)
    (try clear hi)
    (try clear ho0)
    (try clear ho1)
    refine hK.out _ _ ⟨(blk_cell BK315.out 0).trans rfl, (blk_cell BK315.out 1).trans rfl, (blk_cell BK315.out 2).trans rfl, HS3_, HS4_, HS5_, HS6_⟩ (fun hHeld => ?_)
    clear hK K
    refine norm_ (a' := ?_) ?_ ?_
    rotate_left
    ·
     show Act.put _ (some 55) _ = _
     simp only [Act.put, List.setIfInBounds_toArray, List.set_cons_zero, List.set_cons_succ, i64_w, i32_w]
     rfl
    refine pz 5 50 HT_.out ?_
    refine pz 6 56 HT_.out ?_
    refine pz 7 57 HT_.out ?_
    exact norm_ (by simp only [putAll, Act.put, List.setIfInBounds_toArray, List.set_cons_zero, List.set_cons_succ]) (hCont (v321, v324, gb327) _ ⟨hHeld, (rz (Kd.R_mono HL316_2.out (fun _ hk => ⟨hk.1.1.1, ⟨hk.1.2, ⟨hk.1.1.2.1, ⟨hk.1.1.2.2, hk.2⟩⟩⟩⟩))), (rz (Kd.R_mono HL317_2.out (fun _ hk => ⟨hk.1.1.1, ⟨hk.1.2, ⟨hk.1.1.2.1, ⟨hk.1.1.2.2, hk.2⟩⟩⟩⟩))), (rz (Kd.R_mono HL318_2.out (fun _ hk => ⟨hk.1.1.1, ⟨hk.1.2, ⟨hk.1.1.2.1, ⟨hk.1.1.2.2, hk.2⟩⟩⟩⟩))), (rz HO302.out), (sz (Kd.S_mono HO306.out (fun _ hk => ⟨hk.1.1.1, ⟨hk.1.1.2.1, ⟨hk.1.1.2.2, ⟨hk.1.2, hk.2⟩⟩⟩⟩))), (rz HO310.out), (sz (Kd.S_mono HO313.out (fun _ hk => ⟨hk.1.1.1, ⟨hk.1.1.2.1, ⟨hk.1.1.2.2, ⟨hk.1.2, hk.2⟩⟩⟩⟩))), (rz (Kd.R_mono HO322.out (fun _ hk => ⟨hk.1.1.2, ⟨hk.1.2, ⟨hk.2, ⟨hk.1.1.1.1.2, hk.1.1.1.2⟩⟩⟩⟩))), (sz (Kd.S_mono HO325.out (fun _ hk => ⟨hk.1.1.2, ⟨hk.1.2, ⟨hk.2, ⟨hk.1.1.1.1.1.1.2, ⟨hk.1.1.1.1.1.2, ⟨hk.1.1.1.1.2, ⟨hk.1.1.1.2, hk.1.1.1.1.1.1.1⟩⟩⟩⟩⟩⟩⟩))), (bz BK315.out), (bz BK327.out), GW327.out, GE327.out, NB315_327.out, NB327_315.out, (hz2 HB.out GE315.out GE327.out)⟩)
  rintro ⟨v321, v324, gb327⟩ w41 ⟨hS_, h0_, h1_, h2_, h3_, h4_, h5_, h6_, h7_, h8_, h9_, h10_, h11_, h12_, h13_, h14_, h15_⟩
  have n0_ : Aside0 (Kd.R (Kd.int .u8) 5 w41 w.heap.size (fun k_ => some k_ ≠ (.slice Ao29 y300.length co29 : Value).ownBlock ∧ some k_ ≠ (.slice (some ad316) t303.length co37 : Value).ownBlock ∧ some k_ ≠ (.slice Ao34 t308.length co34 : Value).ownBlock ∧ some k_ ≠ (.slice Ao35 t311.length co35 : Value).ownBlock ∧ some k_ ≠ (v321 : Value).ownBlock) (.slice A316_2 ((rd_T25 t303 2).f2).length c316_2) ((rd_T25 t303 2).f2)) := ⟨h0_⟩
  have n1_ : Aside0 (Kd.R (Kd.int .u8) 5 w41 w.heap.size (fun k_ => some k_ ≠ (.slice Ao29 y300.length co29 : Value).ownBlock ∧ some k_ ≠ (.slice (some ad316) t303.length co37 : Value).ownBlock ∧ some k_ ≠ (.slice Ao34 t308.length co34 : Value).ownBlock ∧ some k_ ≠ (.slice Ao35 t311.length co35 : Value).ownBlock ∧ some k_ ≠ (v321 : Value).ownBlock) (.slice A316_2 ((rd_T25 t303 2).f2).length c316_2) ((rd_T25 t303 2).f2)) := ⟨h1_⟩
  have n2_ : Aside0 (Kd.R (Kd.int .u8) 5 w41 w.heap.size (fun k_ => some k_ ≠ (.slice Ao29 y300.length co29 : Value).ownBlock ∧ some k_ ≠ (.slice (some ad316) t303.length co37 : Value).ownBlock ∧ some k_ ≠ (.slice Ao34 t308.length co34 : Value).ownBlock ∧ some k_ ≠ (.slice Ao35 t311.length co35 : Value).ownBlock ∧ some k_ ≠ (v321 : Value).ownBlock) (.slice A318_2 ((rd_T25 t303 2).f2).length c318_2) ((rd_T25 t303 2).f2)) := ⟨h2_⟩
  have n3_ : Aside0 (Kd.R (Kd.int .u8) 5 w41 w.heap.size (fun k_ => some k_ ≠ (.slice Ao34 t308.length co34 : Value).ownBlock ∧ some k_ ≠ (v321 : Value).ownBlock) (.slice Ao29 y300.length co29) y300) := ⟨h3_⟩
  have n4_ : Aside0 (Kd.S k25 25 w41 w.heap.size (fun k_ => some k_ ≠ (.slice Ao29 y300.length co29 : Value).ownBlock ∧ some k_ ≠ (.slice Ao34 t308.length co34 : Value).ownBlock ∧ some k_ ≠ (.slice Ao35 t311.length co35 : Value).ownBlock ∧ some k_ ≠ (v321 : Value).ownBlock ∧ some k_ ≠ (v324 : Value).ownBlock) (.slice (some ad316) t303.length co37) t303) := ⟨h4_⟩
  have n5_ : Aside0 (Kd.R (Kd.int .u8) 5 w41 w.heap.size (fun k_ => some k_ ≠ (.slice Ao29 y300.length co29 : Value).ownBlock ∧ some k_ ≠ (v321 : Value).ownBlock) (.slice Ao34 t308.length co34) t308) := ⟨h5_⟩
  have n6_ : Aside0 (Kd.S k25 25 w41 w.heap.size (fun k_ => some k_ ≠ (.slice Ao29 y300.length co29 : Value).ownBlock ∧ some k_ ≠ (.slice (some ad316) t303.length co37 : Value).ownBlock ∧ some k_ ≠ (.slice Ao34 t308.length co34 : Value).ownBlock ∧ some k_ ≠ (v321 : Value).ownBlock ∧ some k_ ≠ (v324 : Value).ownBlock) (.slice Ao35 t311.length co35) t311) := ⟨h6_⟩
  have n7_ : Aside0 (Kd.R (Kd.int .u8) 5 w41 w.heap.size (fun k_ => some k_ ≠ (.slice A316_2 ((rd_T25 t303 2).f2).length c316_2 : Value).ownBlock ∧ some k_ ≠ (.slice A316_2 ((rd_T25 t303 2).f2).length c316_2 : Value).ownBlock ∧ some k_ ≠ (.slice A318_2 ((rd_T25 t303 2).f2).length c318_2 : Value).ownBlock ∧ some k_ ≠ (.slice Ao29 y300.length co29 : Value).ownBlock ∧ some k_ ≠ (.slice Ao34 t308.length co34 : Value).ownBlock) v321 t320) := ⟨h7_⟩
  have n8_ : Aside0 (Kd.S k25 25 w41 w.heap.size (fun k_ => some k_ ≠ (.slice A316_2 ((rd_T25 t303 2).f2).length c316_2 : Value).ownBlock ∧ some k_ ≠ (.slice A316_2 ((rd_T25 t303 2).f2).length c316_2 : Value).ownBlock ∧ some k_ ≠ (.slice A318_2 ((rd_T25 t303 2).f2).length c318_2 : Value).ownBlock ∧ some k_ ≠ (.slice Ao29 y300.length co29 : Value).ownBlock ∧ some k_ ≠ (.slice (some ad316) t303.length co37 : Value).ownBlock ∧ some k_ ≠ (.slice Ao34 t308.length co34 : Value).ownBlock ∧ some k_ ≠ (.slice Ao35 t311.length co35 : Value).ownBlock ∧ some k_ ≠ (v321 : Value).ownBlock) v324 t323) := ⟨h8_⟩
  have n9_ : Aside0 (w41.heap[gb315]? = some (.cells #[.int .i64 t307, .slice Ao34 t308.length co34, .slice Ao35 t311.length co35] 34 (0, 0))) := ⟨h9_⟩
  have n10_ : Aside0 (w41.heap[gb327]? = some (.cells #[.int .i64 0, .slice none 0 0, .slice none 0 0] 34 (0, 0))) := ⟨h10_⟩
  have n11_ : Aside0 (w.heap.size ≤ gb327) := ⟨h11_⟩
  have n12_ : Aside0 (w.heap.size ≤ gb327) := ⟨h12_⟩
  have n13_ : Aside0 (gb315 ≠ gb327) := ⟨h13_⟩
  have n14_ : Aside0 (gb327 ≠ gb315) := ⟨h14_⟩
  have n15_ : Aside0 (Below w.heap.size w w41) := ⟨h15_⟩
  clear HO302
  clear HO306
  clear HO310
  clear HO313
  clear HL316_2
  clear HL317_2
  clear BK315
  clear HR316_2
  clear HR317_2
  clear HB
  clear h0_ h1_ h2_ h3_ h4_ h5_ h6_ h7_ h8_ h9_ h10_ h11_ h12_ h13_ h14_ h15_
  have HL316_2 := n0_
  have HL317_2 := n1_
  have HL318_2 := n2_
  have HO302 := n3_
  have HO306 := n4_
  have HO310 := n5_
  have HO313 := n6_
  have HO322 := n7_
  have HO325 := n8_
  have BK315 := n9_
  have BK327 := n10_
  have GW327 := n11_
  have GE327 := n12_
  have NB315_327 := n13_
  have NB327_315 := n14_
  have HB := n15_
  clear n0_ n1_ n2_ n3_ n4_ n5_ n6_ n7_ n8_ n9_ n10_ n11_ n12_ n13_ n14_ n15_
  have hHeld : w41.cell? ⟨gb315, 0, none⟩ = some (.int .i64 t307) ∧ w41.cell? ⟨gb315, 1, none⟩ = some (.slice Ao34 t308.length co34) ∧ w41.cell? ⟨gb315, 2, none⟩ = some (.slice Ao35 t311.length co35) ∧ w41.cell? ⟨ad316.block, ad316.off + 8, none⟩ = some (.int .i64 ((rd_T25 t303 2).f0)) ∧ w41.cell? ⟨ad316.block, ad316.off + 8 + 1, none⟩ = some (.int .i64 ((rd_T25 t303 2).f1)) ∧ w41.cell? ⟨ad316.block, ad316.off + 8 + 2, none⟩ = some (.slice A318_2 ((rd_T25 t303 2).f2).length c318_2) ∧ w41.cell? ⟨ad316.block, ad316.off + 8 + 3, none⟩ = some (.int .u64 ((rd_T25 t303 2).f3)) := hS_
  obtain ⟨Ao43, co43, eo43⟩ := Kd.R_slice HO322.out
  (first | subst eo43 | (injection eo43 with f1_ f2_ f3_; have f4_ := f1_.symm; have f5_ := f3_.symm; clear f1_ f2_ f3_; subst f4_; subst f5_))
  obtain ⟨Ao45, co45, eo45⟩ := Kd.S_slice HO325.out
  (first | subst eo45 | (injection eo45 with f1_ f2_ f3_; have f4_ := f1_.symm; have f5_ := f3_.symm; clear f1_ f2_ f3_; subst f4_; subst f5_))
  refine norm_ (a' := ?_) ?_ ?_
  rotate_left
  ·
   simp only [putAll, Act.put, List.setIfInBounds_toArray, List.set_cons_zero, List.set_cons_succ]
   rfl
  refine one_ (i := 9) (N := none) #[true, true, true, true, true, true, true, true, true, true, false] rfl rfl (one_of HT_.out (by kernel_rfl)) (by decide) (fun K hK => ?_)
  have hs42 : w41.cell? ⟨gb327, 0, none⟩ = some (.int .i64 0) := (blk_cell BK327.out 0).trans rfl
  have hfs42 := blk_frozen BK327.out 0
  have hns42_0 := NB315_327.out
  have hms42_0 := NB327_315.out
  have hs44 : w41.cell? ⟨gb327, 1, none⟩ = some (.slice none 0 0) := (blk_cell BK327.out 1).trans rfl
  have hfs44 := blk_frozen BK327.out 1
  have hns44_0 := NB315_327.out
  have hms44_0 := NB327_315.out
  have hs46 : w41.cell? ⟨gb327, 2, none⟩ = some (.slice none 0 0) := (blk_cell BK327.out 2).trans rfl
  have hfs46 := blk_frozen BK327.out 2
  have hns46_0 := NB315_327.out
  have hms46_0 := NB327_315.out
  refine skip_ (w1 := ?_) (by rfl) rfl ?_ ?_
  rotate_left
  ·
   go_simp
   rfl
  refine hK.out _ _ ⟨((cell_far (p := ⟨gb327, _, none⟩) NB315_327.out _).trans (((cell_far (p := ⟨gb327, _, none⟩) NB315_327.out _).trans (((cell_far (p := ⟨gb327, _, none⟩) NB315_327.out _).trans (hHeld.1)))))), ((cell_far (p := ⟨gb327, _, none⟩) NB315_327.out _).trans (((cell_far (p := ⟨gb327, _, none⟩) NB315_327.out _).trans (((cell_far (p := ⟨gb327, _, none⟩) NB315_327.out _).trans (hHeld.2.1)))))), ((cell_far (p := ⟨gb327, _, none⟩) NB315_327.out _).trans (((cell_far (p := ⟨gb327, _, none⟩) NB315_327.out _).trans (((cell_far (p := ⟨gb327, _, none⟩) NB315_327.out _).trans (hHeld.2.2.1)))))), ((cell_far (p := ⟨gb327, _, none⟩) (ob (Kd.own_blk (Kd.S_ne HO306.out BK327.out (by decide)))) _).trans (((cell_far (p := ⟨gb327, _, none⟩) (ob (Kd.own_blk (Kd.S_ne HO306.out BK327.out (by decide)))) _).trans (((cell_far (p := ⟨gb327, _, none⟩) (ob (Kd.own_blk (Kd.S_ne HO306.out BK327.out (by decide)))) _).trans (hHeld.2.2.2.1)))))), ((cell_far (p := ⟨gb327, _, none⟩) (ob (Kd.own_blk (Kd.S_ne HO306.out BK327.out (by decide)))) _).trans (((cell_far (p := ⟨gb327, _, none⟩) (ob (Kd.own_blk (Kd.S_ne HO306.out BK327.out (by decide)))) _).trans (((cell_far (p := ⟨gb327, _, none⟩) (ob (Kd.own_blk (Kd.S_ne HO306.out BK327.out (by decide)))) _).trans (hHeld.2.2.2.2.1)))))), ((cell_far (p := ⟨gb327, _, none⟩) (ob (Kd.own_blk (Kd.S_ne HO306.out BK327.out (by decide)))) _).trans (((cell_far (p := ⟨gb327, _, none⟩) (ob (Kd.own_blk (Kd.S_ne HO306.out BK327.out (by decide)))) _).trans (((cell_far (p := ⟨gb327, _, none⟩) (ob (Kd.own_blk (Kd.S_ne HO306.out BK327.out (by decide)))) _).trans (hHeld.2.2.2.2.2.1)))))), ((cell_far (p := ⟨gb327, _, none⟩) (ob (Kd.own_blk (Kd.S_ne HO306.out BK327.out (by decide)))) _).trans (((cell_far (p := ⟨gb327, _, none⟩) (ob (Kd.own_blk (Kd.S_ne HO306.out BK327.out (by decide)))) _).trans (((cell_far (p := ⟨gb327, _, none⟩) (ob (Kd.own_blk (Kd.S_ne HO306.out BK327.out (by decide)))) _).trans (hHeld.2.2.2.2.2.2))))))⟩ (fun hHeld => ?_)
  clear hK K
  refine pz 10 7 HT_.out ?_
  refine done_ (done_of HT_.out (by kernel_rfl)) ?_
  try go_wp2
  have n0_ : Aside0 (Kd.R (Kd.int .u8) 5 (((w41.setCell ⟨gb327, 0, none⟩ (.int .i64 t319)).setCell ⟨gb327, 1, none⟩ (.slice Ao43 t320.length co43)).setCell ⟨gb327, 2, none⟩ (.slice Ao45 t323.length co45)) w.heap.size (fun k_ => some k_ ≠ (.slice Ao34 t308.length co34 : Value).ownBlock ∧ some k_ ≠ (.slice Ao43 t320.length co43 : Value).ownBlock) (.slice Ao29 y300.length co29) y300) := ⟨by (with_reducible repeat (first | apply Kd.R_alloc | apply Kd.R_drewN | apply Kd.R_drew)); exact Kd.R_mono (rfg3 HO302.out BK327.out) (fun _ hk => ⟨hk.1.1, hk.1.2⟩)⟩
  have n1_ : Aside0 (Kd.S k25 25 (((w41.setCell ⟨gb327, 0, none⟩ (.int .i64 t319)).setCell ⟨gb327, 1, none⟩ (.slice Ao43 t320.length co43)).setCell ⟨gb327, 2, none⟩ (.slice Ao45 t323.length co45)) w.heap.size (fun k_ => some k_ ≠ (.slice Ao29 y300.length co29 : Value).ownBlock ∧ some k_ ≠ (.slice Ao34 t308.length co34 : Value).ownBlock ∧ some k_ ≠ (.slice Ao35 t311.length co35 : Value).ownBlock ∧ some k_ ≠ (.slice Ao43 t320.length co43 : Value).ownBlock ∧ some k_ ≠ (.slice Ao45 t323.length co45 : Value).ownBlock) (.slice (some ad316) t303.length co37) t303) := ⟨by (with_reducible repeat (first | apply Kd.S_alloc | apply Kd.S_drewN | apply Kd.S_drew)); exact Kd.S_mono (sfg3 HO306.out BK327.out) (fun _ hk => ⟨hk.1.1, ⟨hk.1.2.1, ⟨hk.1.2.2.1, ⟨hk.1.2.2.2.1, hk.1.2.2.2.2⟩⟩⟩⟩)⟩
  have n2_ : Aside0 (Kd.R (Kd.int .u8) 5 (((w41.setCell ⟨gb327, 0, none⟩ (.int .i64 t319)).setCell ⟨gb327, 1, none⟩ (.slice Ao43 t320.length co43)).setCell ⟨gb327, 2, none⟩ (.slice Ao45 t323.length co45)) w.heap.size (fun k_ => some k_ ≠ (.slice Ao29 y300.length co29 : Value).ownBlock ∧ some k_ ≠ (.slice Ao43 t320.length co43 : Value).ownBlock) (.slice Ao34 t308.length co34) t308) := ⟨by (with_reducible repeat (first | apply Kd.R_alloc | apply Kd.R_drewN | apply Kd.R_drew)); exact Kd.R_mono (rfg3 HO310.out BK327.out) (fun _ hk => ⟨hk.1.1, hk.1.2⟩)⟩
  have n3_ : Aside0 (Kd.S k25 25 (((w41.setCell ⟨gb327, 0, none⟩ (.int .i64 t319)).setCell ⟨gb327, 1, none⟩ (.slice Ao43 t320.length co43)).setCell ⟨gb327, 2, none⟩ (.slice Ao45 t323.length co45)) w.heap.size (fun k_ => some k_ ≠ (.slice Ao29 y300.length co29 : Value).ownBlock ∧ some k_ ≠ (.slice (some ad316) t303.length co37 : Value).ownBlock ∧ some k_ ≠ (.slice Ao34 t308.length co34 : Value).ownBlock ∧ some k_ ≠ (.slice Ao43 t320.length co43 : Value).ownBlock ∧ some k_ ≠ (.slice Ao45 t323.length co45 : Value).ownBlock) (.slice Ao35 t311.length co35) t311) := ⟨by (with_reducible repeat (first | apply Kd.S_alloc | apply Kd.S_drewN | apply Kd.S_drew)); exact Kd.S_mono (sfg3 HO313.out BK327.out) (fun _ hk => ⟨hk.1.1, ⟨hk.1.2.1, ⟨hk.1.2.2.1, ⟨hk.1.2.2.2.1, hk.1.2.2.2.2⟩⟩⟩⟩)⟩
  have n4_ : Aside0 (Kd.R (Kd.int .u8) 5 (((w41.setCell ⟨gb327, 0, none⟩ (.int .i64 t319)).setCell ⟨gb327, 1, none⟩ (.slice Ao43 t320.length co43)).setCell ⟨gb327, 2, none⟩ (.slice Ao45 t323.length co45)) w.heap.size (fun k_ => some k_ ≠ (.slice Ao29 y300.length co29 : Value).ownBlock ∧ some k_ ≠ (.slice (some ad316) t303.length co37 : Value).ownBlock ∧ some k_ ≠ (.slice Ao34 t308.length co34 : Value).ownBlock ∧ some k_ ≠ (.slice Ao35 t311.length co35 : Value).ownBlock ∧ some k_ ≠ (.slice Ao43 t320.length co43 : Value).ownBlock) (.slice A316_2 ((rd_T25 t303 2).f2).length c316_2) ((rd_T25 t303 2).f2)) := ⟨by (with_reducible repeat (first | apply Kd.R_alloc | apply Kd.R_drewN | apply Kd.R_drew)); exact Kd.R_mono (rfg3 HL316_2.out BK327.out) (fun _ hk => ⟨hk.1.1, ⟨hk.1.2.1, ⟨hk.1.2.2.1, ⟨hk.1.2.2.2.1, hk.1.2.2.2.2⟩⟩⟩⟩)⟩
  have n5_ : Aside0 (Kd.R (Kd.int .u8) 5 (((w41.setCell ⟨gb327, 0, none⟩ (.int .i64 t319)).setCell ⟨gb327, 1, none⟩ (.slice Ao43 t320.length co43)).setCell ⟨gb327, 2, none⟩ (.slice Ao45 t323.length co45)) w.heap.size (fun k_ => some k_ ≠ (.slice Ao29 y300.length co29 : Value).ownBlock ∧ some k_ ≠ (.slice (some ad316) t303.length co37 : Value).ownBlock ∧ some k_ ≠ (.slice Ao34 t308.length co34 : Value).ownBlock ∧ some k_ ≠ (.slice Ao35 t311.length co35 : Value).ownBlock ∧ some k_ ≠ (.slice Ao43 t320.length co43 : Value).ownBlock) (.slice A316_2 ((rd_T25 t303 2).f2).length c316_2) ((rd_T25 t303 2).f2)) := ⟨by (with_reducible repeat (first | apply Kd.R_alloc | apply Kd.R_drewN | apply Kd.R_drew)); exact Kd.R_mono (rfg3 HL317_2.out BK327.out) (fun _ hk => ⟨hk.1.1, ⟨hk.1.2.1, ⟨hk.1.2.2.1, ⟨hk.1.2.2.2.1, hk.1.2.2.2.2⟩⟩⟩⟩)⟩
  have n6_ : Aside0 (Kd.R (Kd.int .u8) 5 (((w41.setCell ⟨gb327, 0, none⟩ (.int .i64 t319)).setCell ⟨gb327, 1, none⟩ (.slice Ao43 t320.length co43)).setCell ⟨gb327, 2, none⟩ (.slice Ao45 t323.length co45)) w.heap.size (fun k_ => some k_ ≠ (.slice Ao29 y300.length co29 : Value).ownBlock ∧ some k_ ≠ (.slice (some ad316) t303.length co37 : Value).ownBlock ∧ some k_ ≠ (.slice Ao34 t308.length co34 : Value).ownBlock ∧ some k_ ≠ (.slice Ao35 t311.length co35 : Value).ownBlock ∧ some k_ ≠ (.slice Ao43 t320.length co43 : Value).ownBlock) (.slice A318_2 ((rd_T25 t303 2).f2).length c318_2) ((rd_T25 t303 2).f2)) := ⟨by (with_reducible repeat (first | apply Kd.R_alloc | apply Kd.R_drewN | apply Kd.R_drew)); exact Kd.R_mono (rfg3 HL318_2.out BK327.out) (fun _ hk => ⟨hk.1.1, ⟨hk.1.2.1, ⟨hk.1.2.2.1, ⟨hk.1.2.2.2.1, hk.1.2.2.2.2⟩⟩⟩⟩)⟩
  have n7_ : Aside0 (Kd.R (Kd.int .u8) 5 (((w41.setCell ⟨gb327, 0, none⟩ (.int .i64 t319)).setCell ⟨gb327, 1, none⟩ (.slice Ao43 t320.length co43)).setCell ⟨gb327, 2, none⟩ (.slice Ao45 t323.length co45)) w.heap.size (fun k_ => some k_ ≠ (.slice Ao29 y300.length co29 : Value).ownBlock ∧ some k_ ≠ (.slice Ao34 t308.length co34 : Value).ownBlock ∧ some k_ ≠ (.slice A316_2 ((rd_T25 t303 2).f2).length c316_2 : Value).ownBlock ∧ some k_ ≠ (.slice A316_2 ((rd_T25 t303 2).f2).length c316_2 : Value).ownBlock ∧ some k_ ≠ (.slice A318_2 ((rd_T25 t303 2).f2).length c318_2 : Value).ownBlock) (.slice Ao43 t320.length co43) t320) := ⟨by (with_reducible repeat (first | apply Kd.R_alloc | apply Kd.R_drewN | apply Kd.R_drew)); exact Kd.R_mono (rfg3 HO322.out BK327.out) (fun _ hk => ⟨hk.1.2.2.2.1, ⟨hk.1.2.2.2.2, ⟨hk.1.1, ⟨hk.1.2.1, hk.1.2.2.1⟩⟩⟩⟩)⟩
  have n8_ : Aside0 (Kd.S k25 25 (((w41.setCell ⟨gb327, 0, none⟩ (.int .i64 t319)).setCell ⟨gb327, 1, none⟩ (.slice Ao43 t320.length co43)).setCell ⟨gb327, 2, none⟩ (.slice Ao45 t323.length co45)) w.heap.size (fun k_ => some k_ ≠ (.slice Ao29 y300.length co29 : Value).ownBlock ∧ some k_ ≠ (.slice (some ad316) t303.length co37 : Value).ownBlock ∧ some k_ ≠ (.slice Ao34 t308.length co34 : Value).ownBlock ∧ some k_ ≠ (.slice Ao35 t311.length co35 : Value).ownBlock ∧ some k_ ≠ (.slice A316_2 ((rd_T25 t303 2).f2).length c316_2 : Value).ownBlock ∧ some k_ ≠ (.slice A316_2 ((rd_T25 t303 2).f2).length c316_2 : Value).ownBlock ∧ some k_ ≠ (.slice A318_2 ((rd_T25 t303 2).f2).length c318_2 : Value).ownBlock ∧ some k_ ≠ (.slice Ao43 t320.length co43 : Value).ownBlock) (.slice Ao45 t323.length co45) t323) := ⟨by (with_reducible repeat (first | apply Kd.S_alloc | apply Kd.S_drewN | apply Kd.S_drew)); exact Kd.S_mono (sfg3 HO325.out BK327.out) (fun _ hk => ⟨hk.1.2.2.2.1, ⟨hk.1.2.2.2.2.1, ⟨hk.1.2.2.2.2.2.1, ⟨hk.1.2.2.2.2.2.2.1, ⟨hk.1.1, ⟨hk.1.2.1, ⟨hk.1.2.2.1, hk.1.2.2.2.2.2.2.2⟩⟩⟩⟩⟩⟩⟩)⟩
  have n9_ : Aside0 ((((w41.setCell ⟨gb327, 0, none⟩ (.int .i64 t319)).setCell ⟨gb327, 1, none⟩ (.slice Ao43 t320.length co43)).setCell ⟨gb327, 2, none⟩ (.slice Ao45 t323.length co45)).heap[gb315]? = some (.cells #[.int .i64 t307, .slice Ao34 t308.length co34, .slice Ao35 t311.length co35] 34 (0, 0))) := ⟨bf1 NB315_327.out BK315.out⟩
  have n10_ : Aside0 ((((w41.setCell ⟨gb327, 0, none⟩ (.int .i64 t319)).setCell ⟨gb327, 1, none⟩ (.slice Ao43 t320.length co43)).setCell ⟨gb327, 2, none⟩ (.slice Ao45 t323.length co45)).heap[gb327]? = some (.cells #[.int .i64 t319, .slice Ao43 t320.length co43, .slice Ao45 t323.length co45] 34 (0, 0))) := ⟨by (with_reducible repeat (first | refine blk_drewN ?_ _ | refine blk_drew ?_ | refine blk_alloc ?_ _)); refine blk_put (cs := #[.int .i64 t319, .slice Ao43 t320.length co43, .slice none 0 0]) ?_ 2 _ rfl; (with_reducible repeat (first | refine blk_drewN ?_ _ | refine blk_drew ?_ | refine blk_alloc ?_ _)); refine blk_put (cs := #[.int .i64 t319, .slice none 0 0, .slice none 0 0]) ?_ 1 _ rfl; (with_reducible repeat (first | refine blk_drewN ?_ _ | refine blk_drew ?_ | refine blk_alloc ?_ _)); refine blk_put (cs := #[.int .i64 0, .slice none 0 0, .slice none 0 0]) ?_ 0 _ rfl; (with_reducible repeat (first | refine blk_drewN ?_ _ | refine blk_drew ?_ | refine blk_alloc ?_ _)); exact BK327.out⟩
  have n11_ : Aside0 (Below w.heap.size w (((w41.setCell ⟨gb327, 0, none⟩ (.int .i64 t319)).setCell ⟨gb327, 1, none⟩ (.slice Ao43 t320.length co43)).setCell ⟨gb327, 2, none⟩ (.slice Ao45 t323.length co45))) := ⟨hz2 HB.out GE315.out GE327.out⟩
  (try clear HO302)
  (try clear HO306)
  (try clear HO310)
  (try clear HO313)
  (try clear HL316_2)
  (try clear HL317_2)
  (try clear HL318_2)
  (try clear HO322)
  (try clear HO325)
  (try clear BK315)
  (try clear BK327)
  (try clear HB)
  generalize (((w41.setCell ⟨gb327, 0, none⟩ (.int .i64 t319)).setCell ⟨gb327, 1, none⟩ (.slice Ao43 t320.length co43)).setCell ⟨gb327, 2, none⟩ (.slice Ao45 t323.length co45)) = w47 at n0_ n1_ n2_ n3_ n4_ n5_ n6_ n7_ n8_ n9_ n10_ n11_ ⊢
  have HO302 := n0_
  have HO306 := n1_
  have HO310 := n2_
  have HO313 := n3_
  have HL316_2 := n4_
  have HL317_2 := n5_
  have HL318_2 := n6_
  have HO322 := n7_
  have HO325 := n8_
  have BK315 := n9_
  have BK327 := n10_
  have HB := n11_
  clear n0_ n1_ n2_ n3_ n4_ n5_ n6_ n7_ n8_ n9_ n10_ n11_
  replace HO302 := am (Kd.R_drew HO302.out)
  replace HO306 := am (Kd.S_drew HO306.out)
  replace HO310 := am (Kd.R_drew HO310.out)
  replace HO313 := am (Kd.S_drew HO313.out)
  replace HL316_2 := am (Kd.R_drew HL316_2.out)
  replace HL317_2 := am (Kd.R_drew HL317_2.out)
  replace HL318_2 := am (Kd.R_drew HL318_2.out)
  replace HO322 := am (Kd.R_drew HO322.out)
  replace HO325 := am (Kd.S_drew HO325.out)
  replace BK315 := am (blk_drew BK315.out)
  replace BK327 := am (blk_drew BK327.out)
  replace HB := am (below_drew1 HB.out)
  have p328 : 0 ≤ (0 : Int) := (by omega)
  have q328 : 0 < (t303.length : Int) := of_decide_eq_true az
  obtain ⟨ad328, A328_2, c328_2, e328, hx328_0, hx328_1, hx328_2, hx328_3, hl328_2, hi328_2⟩ := at_T25 (Kd.S_reads' HO306.out).2.2 0 p328 q328
  obtain rfl : ad316 = ad328 := (by injection e328)
  obtain ⟨ce328, hce328, hMe328, hcc328⟩ := Kd.S_get HO306.out z25 0 p328 (by first | exact q328 | exact of_decide_eq_true az | (have e_ := (Kd.S_reads' HO306.out).1; omega))
  obtain ⟨ve328_2, rfl, ge328_2⟩ := k25_openM hMe328
  have hv328_2 := hcc328 2 _ rfl
  rw [add_field _ _ 2 (by omega)] at hv328_2
  replace hv328_2 := Option.some.inj (hv328_2.symm.trans hx328_2)
  rw [hv328_2] at ge328_2
  have HL328_2 := am (show Kd.R (Kd.int .u8) 5 _ _ _ _ ((rd_T25 t303 0).f2) from ge328_2)
  clear hv328_2 ge328_2
  clear hcc328 hce328
  have qi328 : (0 < t303.length) = True := eq_true (by omega)
  (try rw [show ((0 : Int)).toNat = 0 from rfl] at hx328_0)
  (try rw [show 0 * 4 = 0 from rfl] at hx328_0)
  (try rw [Addr.add_zero'] at hx328_0)
  (try rw [show ((0 : Int)).toNat = 0 from rfl] at hx328_1)
  (try rw [show 0 * 4 = 0 from rfl] at hx328_1)
  (try rw [Addr.add_zero'] at hx328_1)
  (try rw [show ((0 : Int)).toNat = 0 from rfl] at hx328_2)
  (try rw [show 0 * 4 = 0 from rfl] at hx328_2)
  (try rw [Addr.add_zero'] at hx328_2)
  (try rw [show ((0 : Int)).toNat = 0 from rfl] at hx328_3)
  (try rw [show 0 * 4 = 0 from rfl] at hx328_3)
  (try rw [Addr.add_zero'] at hx328_3)
  have HR328_2 := am hi328_2
  have HC328_2 := am hl328_2
  clear hi328_2 hl328_2
  replace p328 := eq_true p328
  replace q328 := eq_true q328
  refine start_ (n := 11) (S := fun w' => w'.cell? ⟨gb327, 0, none⟩ = some (.int .i64 t319) ∧ w'.cell? ⟨gb327, 1, none⟩ = some (.slice Ao43 t320.length co43) ∧ w'.cell? ⟨gb327, 2, none⟩ = some (.slice Ao45 t323.length co45) ∧ w'.cell? ad316 = some (.int .i64 ((rd_T25 t303 0).f0)) ∧ w'.cell? ⟨ad316.block, ad316.off + 1, none⟩ = some (.int .i64 ((rd_T25 t303 0).f1)) ∧ w'.cell? ⟨ad316.block, ad316.off + 2, none⟩ = some (.slice A328_2 ((rd_T25 t303 0).f2).length c328_2) ∧ w'.cell? ⟨ad316.block, ad316.off + 3, none⟩ = some (.int .u64 ((rd_T25 t303 0).f3))) (ds := []) #[false, false, false, false, false, false, false, false, false, false, false] (by kernel_rfl) rfl rfl ⟨(blk_cell BK327.out 0).trans rfl, (blk_cell BK327.out 1).trans rfl, (blk_cell BK327.out 2).trans rfl, hx328_0, hx328_1, hx328_2, hx328_3⟩ (fun hHeld => ?_); refine with_tabW examboardlaw53_awake.tab7 examboardlaw53_awake.bits7 (fun HT_ HW_ => ?_)
  generalize w47.drew = w48 at HO302 HO306 HO310 HO313 HL316_2 HL317_2 HL318_2 HO322 HO325 BK315 BK327 HB HL328_2 HR328_2 hx328_0 hx328_1 hx328_2 hx328_3 hHeld ⊢
  refine pz 1 60 HT_.out ?_
  refine pz 2 61 HT_.out ?_
  refine tz7 0 59 HT_.out HW_.out hHeld ?_
  refine tz7 3 62 HT_.out HW_.out hHeld ?_
  refine join_ (σ := Value × Value × Nat) 2 #[true, true, true, true, true, true, true, true, true, false, false] (fun s_ => [(63, .tuple #[.agg #[.int .i64 t329, s_.1, s_.2.1], .int .i64 t336]), (8, .pointer (some ⟨s_.2.2, 0, none⟩)), (58, .tuple #[.agg #[.int .i64 t329, s_.1, s_.2.1], .int .i64 t336]), (64, .agg #[.int .i64 t329, s_.1, s_.2.1]), (65, .int .i64 t336)]) (fun s_ w' => (w'.cell? ⟨gb327, 0, none⟩ = some (.int .i64 t319) ∧ w'.cell? ⟨gb327, 1, none⟩ = some (.slice Ao43 t320.length co43) ∧ w'.cell? ⟨gb327, 2, none⟩ = some (.slice Ao45 t323.length co45) ∧ w'.cell? ad316 = some (.int .i64 ((rd_T25 t303 0).f0)) ∧ w'.cell? ⟨ad316.block, ad316.off + 1, none⟩ = some (.int .i64 ((rd_T25 t303 0).f1)) ∧ w'.cell? ⟨ad316.block, ad316.off + 2, none⟩ = some (.slice A328_2 ((rd_T25 t303 0).f2).length c328_2) ∧ w'.cell? ⟨ad316.block, ad316.off + 3, none⟩ = some (.int .u64 ((rd_T25 t303 0).f3))) ∧ (Kd.R (Kd.int .u8) 5 w' w.heap.size (fun k_ => some k_ ≠ (.slice Ao29 y300.length co29 : Value).ownBlock ∧ some k_ ≠ (.slice (some ad316) t303.length co37 : Value).ownBlock ∧ some k_ ≠ (.slice Ao34 t308.length co34 : Value).ownBlock ∧ some k_ ≠ (.slice Ao35 t311.length co35 : Value).ownBlock ∧ some k_ ≠ (.slice Ao43 t320.length co43 : Value).ownBlock ∧ some k_ ≠ (s_.1 : Value).ownBlock) (.slice A316_2 ((rd_T25 t303 2).f2).length c316_2) ((rd_T25 t303 2).f2)) ∧ (Kd.R (Kd.int .u8) 5 w' w.heap.size (fun k_ => some k_ ≠ (.slice Ao29 y300.length co29 : Value).ownBlock ∧ some k_ ≠ (.slice (some ad316) t303.length co37 : Value).ownBlock ∧ some k_ ≠ (.slice Ao34 t308.length co34 : Value).ownBlock ∧ some k_ ≠ (.slice Ao35 t311.length co35 : Value).ownBlock ∧ some k_ ≠ (.slice Ao43 t320.length co43 : Value).ownBlock ∧ some k_ ≠ (s_.1 : Value).ownBlock) (.slice A316_2 ((rd_T25 t303 2).f2).length c316_2) ((rd_T25 t303 2).f2)) ∧ (Kd.R (Kd.int .u8) 5 w' w.heap.size (fun k_ => some k_ ≠ (.slice Ao29 y300.length co29 : Value).ownBlock ∧ some k_ ≠ (.slice (some ad316) t303.length co37 : Value).ownBlock ∧ some k_ ≠ (.slice Ao34 t308.length co34 : Value).ownBlock ∧ some k_ ≠ (.slice Ao35 t311.length co35 : Value).ownBlock ∧ some k_ ≠ (.slice Ao43 t320.length co43 : Value).ownBlock ∧ some k_ ≠ (s_.1 : Value).ownBlock) (.slice A318_2 ((rd_T25 t303 2).f2).length c318_2) ((rd_T25 t303 2).f2)) ∧ (Kd.R (Kd.int .u8) 5 w' w.heap.size (fun k_ => some k_ ≠ (.slice Ao29 y300.length co29 : Value).ownBlock ∧ some k_ ≠ (.slice (some ad316) t303.length co37 : Value).ownBlock ∧ some k_ ≠ (.slice Ao34 t308.length co34 : Value).ownBlock ∧ some k_ ≠ (.slice Ao35 t311.length co35 : Value).ownBlock ∧ some k_ ≠ (.slice Ao43 t320.length co43 : Value).ownBlock ∧ some k_ ≠ (.slice Ao45 t323.length co45 : Value).ownBlock ∧ some k_ ≠ (s_.1 : Value).ownBlock) (.slice A328_2 ((rd_T25 t303 0).f2).length c328_2) ((rd_T25 t303 0).f2)) ∧ (Kd.R (Kd.int .u8) 5 w' w.heap.size (fun k_ => some k_ ≠ (.slice Ao34 t308.length co34 : Value).ownBlock ∧ some k_ ≠ (.slice Ao43 t320.length co43 : Value).ownBlock ∧ some k_ ≠ (s_.1 : Value).ownBlock) (.slice Ao29 y300.length co29) y300) ∧ (Kd.S k25 25 w' w.heap.size (fun k_ => some k_ ≠ (.slice Ao29 y300.length co29 : Value).ownBlock ∧ some k_ ≠ (.slice Ao34 t308.length co34 : Value).ownBlock ∧ some k_ ≠ (.slice Ao35 t311.length co35 : Value).ownBlock ∧ some k_ ≠ (.slice Ao43 t320.length co43 : Value).ownBlock ∧ some k_ ≠ (.slice Ao45 t323.length co45 : Value).ownBlock ∧ some k_ ≠ (s_.1 : Value).ownBlock ∧ some k_ ≠ (s_.2.1 : Value).ownBlock) (.slice (some ad316) t303.length co37) t303) ∧ (Kd.R (Kd.int .u8) 5 w' w.heap.size (fun k_ => some k_ ≠ (.slice Ao29 y300.length co29 : Value).ownBlock ∧ some k_ ≠ (.slice Ao43 t320.length co43 : Value).ownBlock ∧ some k_ ≠ (s_.1 : Value).ownBlock) (.slice Ao34 t308.length co34) t308) ∧ (Kd.S k25 25 w' w.heap.size (fun k_ => some k_ ≠ (.slice Ao29 y300.length co29 : Value).ownBlock ∧ some k_ ≠ (.slice (some ad316) t303.length co37 : Value).ownBlock ∧ some k_ ≠ (.slice Ao34 t308.length co34 : Value).ownBlock ∧ some k_ ≠ (.slice Ao43 t320.length co43 : Value).ownBlock ∧ some k_ ≠ (.slice Ao45 t323.length co45 : Value).ownBlock ∧ some k_ ≠ (s_.1 : Value).ownBlock ∧ some k_ ≠ (s_.2.1 : Value).ownBlock) (.slice Ao35 t311.length co35) t311) ∧ (Kd.R (Kd.int .u8) 5 w' w.heap.size (fun k_ => some k_ ≠ (.slice A316_2 ((rd_T25 t303 2).f2).length c316_2 : Value).ownBlock ∧ some k_ ≠ (.slice A316_2 ((rd_T25 t303 2).f2).length c316_2 : Value).ownBlock ∧ some k_ ≠ (.slice A318_2 ((rd_T25 t303 2).f2).length c318_2 : Value).ownBlock ∧ some k_ ≠ (.slice Ao29 y300.length co29 : Value).ownBlock ∧ some k_ ≠ (.slice Ao34 t308.length co34 : Value).ownBlock ∧ some k_ ≠ (s_.1 : Value).ownBlock) (.slice Ao43 t320.length co43) t320) ∧ (Kd.S k25 25 w' w.heap.size (fun k_ => some k_ ≠ (.slice A316_2 ((rd_T25 t303 2).f2).length c316_2 : Value).ownBlock ∧ some k_ ≠ (.slice A316_2 ((rd_T25 t303 2).f2).length c316_2 : Value).ownBlock ∧ some k_ ≠ (.slice A318_2 ((rd_T25 t303 2).f2).length c318_2 : Value).ownBlock ∧ some k_ ≠ (.slice Ao29 y300.length co29 : Value).ownBlock ∧ some k_ ≠ (.slice (some ad316) t303.length co37 : Value).ownBlock ∧ some k_ ≠ (.slice Ao34 t308.length co34 : Value).ownBlock ∧ some k_ ≠ (.slice Ao35 t311.length co35 : Value).ownBlock ∧ some k_ ≠ (.slice Ao43 t320.length co43 : Value).ownBlock ∧ some k_ ≠ (s_.1 : Value).ownBlock ∧ some k_ ≠ (s_.2.1 : Value).ownBlock) (.slice Ao45 t323.length co45) t323) ∧ (Kd.R (Kd.int .u8) 5 w' w.heap.size (fun k_ => some k_ ≠ (.slice A316_2 ((rd_T25 t303 2).f2).length c316_2 : Value).ownBlock ∧ some k_ ≠ (.slice A316_2 ((rd_T25 t303 2).f2).length c316_2 : Value).ownBlock ∧ some k_ ≠ (.slice A318_2 ((rd_T25 t303 2).f2).length c318_2 : Value).ownBlock ∧ some k_ ≠ (.slice A328_2 ((rd_T25 t303 0).f2).length c328_2 : Value).ownBlock ∧ some k_ ≠ (.slice Ao29 y300.length co29 : Value).ownBlock ∧ some k_ ≠ (.slice Ao34 t308.length co34 : Value).ownBlock ∧ some k_ ≠ (.slice Ao43 t320.length co43 : Value).ownBlock) s_.1 t330) ∧ (Kd.S k25 25 w' w.heap.size (fun k_ => some k_ ≠ (.slice A316_2 ((rd_T25 t303 2).f2).length c316_2 : Value).ownBlock ∧ some k_ ≠ (.slice A316_2 ((rd_T25 t303 2).f2).length c316_2 : Value).ownBlock ∧ some k_ ≠ (.slice A318_2 ((rd_T25 t303 2).f2).length c318_2 : Value).ownBlock ∧ some k_ ≠ (.slice A328_2 ((rd_T25 t303 0).f2).length c328_2 : Value).ownBlock ∧ some k_ ≠ (.slice Ao29 y300.length co29 : Value).ownBlock ∧ some k_ ≠ (.slice (some ad316) t303.length co37 : Value).ownBlock ∧ some k_ ≠ (.slice Ao34 t308.length co34 : Value).ownBlock ∧ some k_ ≠ (.slice Ao35 t311.length co35 : Value).ownBlock ∧ some k_ ≠ (.slice Ao43 t320.length co43 : Value).ownBlock ∧ some k_ ≠ (.slice Ao45 t323.length co45 : Value).ownBlock ∧ some k_ ≠ (s_.1 : Value).ownBlock) s_.2.1 t333) ∧ (w'.heap[gb315]? = some (.cells #[.int .i64 t307, .slice Ao34 t308.length co34, .slice Ao35 t311.length co35] 34 (0, 0))) ∧ (w'.heap[gb327]? = some (.cells #[.int .i64 t319, .slice Ao43 t320.length co43, .slice Ao45 t323.length co45] 34 (0, 0))) ∧ (w'.heap[s_.2.2]? = some (.cells #[.int .i64 0, .slice none 0 0, .slice none 0 0] 34 (0, 0))) ∧ (w.heap.size ≤ s_.2.2) ∧ (w.heap.size ≤ s_.2.2) ∧ (gb315 ≠ s_.2.2) ∧ (s_.2.2 ≠ gb315) ∧ (gb327 ≠ s_.2.2) ∧ (s_.2.2 ≠ gb327) ∧ (Below w.heap.size w w')) ?_ ?_
  rotate_left
  ·
   intro hCont
   refine two_ (i := 4) (j := 8) (Ni := some 63) (Nj := some 8) #[true, true, true, true, true, false, false, false, false, false, false] #[true, true, true, true, false, false, false, false, true, false, false] rfl rfl rfl rfl (two_of HT_.out (by kernel_rfl)) (by decide) (by decide) (fun K hK => ?_) (fun K hK => ?_)
   ·
    skip
    refine goes_ Try.func20 (by kernel_rfl) rfl #[.agg #[.int .i64 t319, .slice Ao43 t320.length co43, .slice Ao45 t323.length co45], .agg #[.int .i64 ((rd_T25 t303 0).f0), .int .i64 ((rd_T25 t303 0).f1), .slice A328_2 ((rd_T25 t303 0).f2).length c328_2, .int .u64 ((rd_T25 t303 0).f3)]] (by rfl) rfl rfl lz ?_
    with_reducible refine (upload_Receive.calls k t319 _ _ t320 _ _ t323 ((rd_T25 t303 0).f0) ((rd_T25 t303 0).f1) _ _ ((rd_T25 t303 0).f2) ((rd_T25 t303 0).f3) t329 t330 t333 t336 _ ?side1 ?side2 ?side3 ?side4 ?side5 ?side6 A11.out).mono ?_
    (case side1 => repeat (first | exact (Kd.R_reads' HO322.out).2.2 | (with_reducible refine Kd.C_alloc ?_ _) | (with_reducible refine Kd.C_drewN ?_ _) | (with_reducible refine Kd.C_drew ?_)))
    (case side2 => exact (Kd.R_reads' HO322.out).2.1)
    (case side3 => repeat (first | exact (Kd.S_reads' HO325.out).2.2 | (with_reducible refine Kd.C_alloc ?_ _) | (with_reducible refine Kd.C_drewN ?_ _) | (with_reducible refine Kd.C_drew ?_)))
    (case side4 => exact (Kd.S_reads' HO325.out).2.1)
    (case side5 => repeat (first | exact (cz HR328_2.out) | (with_reducible refine Kd.C_alloc ?_ _) | (with_reducible refine Kd.C_drewN ?_ _) | (with_reducible refine Kd.C_drew ?_)))
    (case side6 => exact HC328_2.out)
    rintro e w49 ⟨v331, v334, rfl, ho0, ho1, hb⟩
    have HS3_ := (hb.cell (World.block_lt_of_cell? _ _ (hHeld.2.2.2.1))).trans (hHeld.2.2.2.1)
    have HS4_ := (hb.cell (World.block_lt_of_cell? _ _ (hHeld.2.2.2.2.1))).trans (hHeld.2.2.2.2.1)
    have HS5_ := (hb.cell (World.block_lt_of_cell? _ _ (hHeld.2.2.2.2.2.1))).trans (hHeld.2.2.2.2.2.1)
    have HS6_ := (hb.cell (World.block_lt_of_cell? _ _ (hHeld.2.2.2.2.2.2))).trans (hHeld.2.2.2.2.2.2)
    refine ⟨_, rfl, ?_⟩
    have HO332 := am (Kd.R_lower (Kd.R_new' (Kd.R_new' (Kd.R_new' (Kd.R_new' (Kd.R_new' (Kd.R_new' (Kd.R_new' ho0 (Kd.R_lt (rz HO302.out))) (Kd.R_lt (rz HO310.out))) (Kd.R_lt (rz HL316_2.out))) (Kd.R_lt (rz HL317_2.out))) (Kd.R_lt (rz HL318_2.out))) (Kd.R_lt (rz HO322.out))) (Kd.R_lt (rz HL328_2.out))) (below_size (hz2 HB.out GE315.out GE327.out)))
    have HO335 := am (Kd.S_lower (Kd.S_new' (Kd.S_new' (Kd.S_new' (Kd.S_new' (Kd.S_new' (Kd.S_new' (Kd.S_new' (Kd.S_new' (Kd.S_new' (Kd.S_new' ho1 (Kd.R_lt (rz HO302.out))) (Kd.S_lt (sz HO306.out))) (Kd.R_lt (rz HO310.out))) (Kd.S_lt (sz HO313.out))) (Kd.R_lt (rz HL316_2.out))) (Kd.R_lt (rz HL317_2.out))) (Kd.R_lt (rz HL318_2.out))) (Kd.R_lt (rz HO322.out))) (Kd.S_lt (sz HO325.out))) (Kd.R_lt (rz HL328_2.out))) (below_size (hz2 HB.out GE315.out GE327.out)))
    replace HO302 := am (Kd.R_elder' (rz HO302.out) (Kd.R_base ho0) hb)
    replace HO306 := am (Kd.S_mono (Kd.S_told (Kd.S_told (Kd.S_old (sz HO306.out) hb) (Kd.R_base ho0)) (Kd.S_base ho1)) (fun _ h_ => h_.1))
    replace HO310 := am (Kd.R_elder' (rz HO310.out) (Kd.R_base ho0) hb)
    replace HO313 := am (Kd.S_mono (Kd.S_told (Kd.S_told (Kd.S_old (sz HO313.out) hb) (Kd.R_base ho0)) (Kd.S_base ho1)) (fun _ h_ => h_.1))
    replace HL316_2 := am (Kd.R_elder' (rz HL316_2.out) (Kd.R_base ho0) hb)
    replace HL317_2 := am (Kd.R_elder' (rz HL317_2.out) (Kd.R_base ho0) hb)
    replace HL318_2 := am (Kd.R_elder' (rz HL318_2.out) (Kd.R_base ho0) hb)
    replace HO322 := am (Kd.R_elder' (rz HO322.out) (Kd.R_base ho0) hb)
    replace HO325 := am (Kd.S_mono (Kd.S_told (Kd.S_told (Kd.S_old (sz HO325.out) hb) (Kd.R_base ho0)) (Kd.S_base ho1)) (fun _ h_ => h_.1))
    replace HL328_2 := am (Kd.R_elder' (rz HL328_2.out) (Kd.R_base ho0) hb)
    replace BK315 := am (blk_below (bz BK315.out) hb)
    replace BK327 := am (blk_below (bz BK327.out) hb)
    replace HR328_2 := am (Kd.C_below (cz HR328_2.out) hb)
    replace HB := am (below_step (hz2 HB.out GE315.out GE327.out) hb)
    (try clear hb)
    (try clear hb2)
    (try clear hk)
    (try clear hi)
    (try clear ho0)
    (try clear ho1)
    refine hK.out _ _ ⟨(blk_cell BK327.out 0).trans rfl, (blk_cell BK327.out 1).trans rfl, (blk_cell BK327.out 2).trans rfl, HS3_, HS4_, HS5_, HS6_⟩ (fun hHeld => ?_)
    clear hK K
    refine norm_ (a' := ?_) ?_ ?_
    rotate_left
    ·
     show Act.put _ (some 63) _ = _
     simp only [Act.put, List.setIfInBounds_toArray, List.set_cons_zero, List.set_cons_succ, i64_w, i32_w]
     rfl
    refine pz 5 58 HT_.out ?_
    refine pz 6 64 HT_.out ?_
    refine pz 7 65 HT_.out ?_
    refine oz 8 8 HT_.out (fun K hK => ?_)
    refine box_step ?hg (N := 8) ?hd (cs := #[.int .i64 0, .slice none 0 0, .slice none 0 0]) (t := 34) ?hr ?_; (case hd => rfl); (case hg => rfl); (case hr => exact gz)
    intro gb337 hg w50 hbox hb
    have HS3_ := (hb.cell (World.block_lt_of_cell? _ _ (hHeld.2.2.2.1))).trans (hHeld.2.2.2.1)
    have HS4_ := (hb.cell (World.block_lt_of_cell? _ _ (hHeld.2.2.2.2.1))).trans (hHeld.2.2.2.2.1)
    have HS5_ := (hb.cell (World.block_lt_of_cell? _ _ (hHeld.2.2.2.2.2.1))).trans (hHeld.2.2.2.2.2.1)
    have HS6_ := (hb.cell (World.block_lt_of_cell? _ _ (hHeld.2.2.2.2.2.2))).trans (hHeld.2.2.2.2.2.2)
    replace HO302 := am (Kd.R_below (rz HO302.out) hb)
    replace HO306 := am (Kd.S_below (sz HO306.out) hb)
    replace HO310 := am (Kd.R_below (rz HO310.out) hb)
    replace HO313 := am (Kd.S_below (sz HO313.out) hb)
    replace HL316_2 := am (Kd.R_below (rz HL316_2.out) hb)
    replace HL317_2 := am (Kd.R_below (rz HL317_2.out) hb)
    replace HL318_2 := am (Kd.R_below (rz HL318_2.out) hb)
    replace HO322 := am (Kd.R_below (rz HO322.out) hb)
    replace HO325 := am (Kd.S_below (sz HO325.out) hb)
    replace HL328_2 := am (Kd.R_below (rz HL328_2.out) hb)
    replace HO332 := am (Kd.R_below (rz HO332.out) hb)
    replace HO335 := am (Kd.S_below (sz HO335.out) hb)
    replace HR328_2 := am (Kd.C_below (cz HR328_2.out) hb)
    have BK337 := am (hbox)
    have GW337 := am ((bs hg (hz2 HB.out GE315.out GE327.out) : w.heap.size ≤ gb337))
    have GE337 := am ((bs hg (hz2 HB.out GE315.out GE327.out) : w.heap.size ≤ gb337))
    replace HB := am (below_step (hz2 HB.out GE315.out GE327.out) hb)
    have NB315_337 := am ((nl hg (bz BK315.out) : gb315 ≠ gb337))
    have NB337_315 := am ((ng hg (bz BK315.out) : gb337 ≠ gb315))
    replace BK315 := am (blk_below (bz BK315.out) hb)
    have NB327_337 := am ((nl hg (bz BK327.out) : gb327 ≠ gb337))
    have NB337_327 := am ((ng hg (bz BK327.out) : gb337 ≠ gb327))
    replace BK327 := am (blk_below (bz BK327.out) hb)
    clear hb hbox hg
    refine hK.out _ _ ⟨(blk_cell BK327.out 0).trans rfl, (blk_cell BK327.out 1).trans rfl, (blk_cell BK327.out 2).trans rfl, HS3_, HS4_, HS5_, HS6_⟩ (fun hHeld => ?_)
    clear hK K
    refine norm_ (a' := ?_) ?_ ?_
    rotate_left
    ·
     show Act.put _ (some 8) _ = _
     simp only [Act.put, List.setIfInBounds_toArray, List.set_cons_zero, List.set_cons_succ, i64_w, i32_w]
     rfl
    exact norm_ (by simp only [putAll, Act.put, List.setIfInBounds_toArray, List.set_cons_zero, List.set_cons_succ]) (hCont (v331, v334, gb337) _ ⟨hHeld, (rz (Kd.R_mono HL316_2.out (fun _ hk => ⟨hk.1.1, ⟨hk.1.2.1, ⟨hk.1.2.2.1, ⟨hk.1.2.2.2.1, ⟨hk.1.2.2.2.2, hk.2⟩⟩⟩⟩⟩))), (rz (Kd.R_mono HL317_2.out (fun _ hk => ⟨hk.1.1, ⟨hk.1.2.1, ⟨hk.1.2.2.1, ⟨hk.1.2.2.2.1, ⟨hk.1.2.2.2.2, hk.2⟩⟩⟩⟩⟩))), (rz (Kd.R_mono HL318_2.out (fun _ hk => ⟨hk.1.1, ⟨hk.1.2.1, ⟨hk.1.2.2.1, ⟨hk.1.2.2.2.1, ⟨hk.1.2.2.2.2, hk.2⟩⟩⟩⟩⟩))), (rz (Kd.R_mono HL328_2.out (fun _ hk => ⟨hk.1.1.1, ⟨hk.1.2, ⟨hk.1.1.2.1, ⟨hk.1.1.2.2.1, ⟨hk.1.1.2.2.2.1, ⟨hk.1.1.2.2.2.2, hk.2⟩⟩⟩⟩⟩⟩))), (rz (Kd.R_mono HO302.out (fun _ hk => ⟨hk.1.1, ⟨hk.1.2, hk.2⟩⟩))), (sz (Kd.S_mono HO306.out (fun _ hk => ⟨hk.1.1.1, ⟨hk.1.1.2.1, ⟨hk.1.1.2.2.1, ⟨hk.1.1.2.2.2.1, ⟨hk.1.1.2.2.2.2, ⟨hk.1.2, hk.2⟩⟩⟩⟩⟩⟩))), (rz (Kd.R_mono HO310.out (fun _ hk => ⟨hk.1.1, ⟨hk.1.2, hk.2⟩⟩))), (sz (Kd.S_mono HO313.out (fun _ hk => ⟨hk.1.1.1, ⟨hk.1.1.2.1, ⟨hk.1.1.2.2.1, ⟨hk.1.1.2.2.2.1, ⟨hk.1.1.2.2.2.2, ⟨hk.1.2, hk.2⟩⟩⟩⟩⟩⟩))), (rz (Kd.R_mono HO322.out (fun _ hk => ⟨hk.1.2.2.1, ⟨hk.1.2.2.2.1, ⟨hk.1.2.2.2.2, ⟨hk.1.1, ⟨hk.1.2.1, hk.2⟩⟩⟩⟩⟩))), (sz (Kd.S_mono HO325.out (fun _ hk => ⟨hk.1.1.2.2.2.2.1, ⟨hk.1.1.2.2.2.2.2.1, ⟨hk.1.1.2.2.2.2.2.2.1, ⟨hk.1.1.1, ⟨hk.1.1.2.1, ⟨hk.1.1.2.2.1, ⟨hk.1.1.2.2.2.1, ⟨hk.1.1.2.2.2.2.2.2.2, ⟨hk.1.2, hk.2⟩⟩⟩⟩⟩⟩⟩⟩⟩))), (rz (Kd.R_mono HO332.out (fun _ hk => ⟨hk.1.1.1.1.2, ⟨hk.1.1.1.2, ⟨hk.1.1.2, ⟨hk.2, ⟨hk.1.1.1.1.1.1.2, ⟨hk.1.1.1.1.1.2, hk.1.2⟩⟩⟩⟩⟩⟩))), (sz (Kd.S_mono HO335.out (fun _ hk => ⟨hk.1.1.1.1.1.2, ⟨hk.1.1.1.1.2, ⟨hk.1.1.1.2, ⟨hk.2, ⟨hk.1.1.1.1.1.1.1.1.1.2, ⟨hk.1.1.1.1.1.1.1.1.2, ⟨hk.1.1.1.1.1.1.1.2, ⟨hk.1.1.1.1.1.1.2, ⟨hk.1.1.2, ⟨hk.1.2, hk.1.1.1.1.1.1.1.1.1.1⟩⟩⟩⟩⟩⟩⟩⟩⟩⟩))), (bz BK315.out), (bz BK327.out), (bz BK337.out), GW337.out, GE337.out, NB315_337.out, NB337_315.out, NB327_337.out, NB337_327.out, (hz3 HB.out GE315.out GE327.out GE337.out)⟩)
   ·
    skip
    refine box_step ?hg (N := 8) ?hd (cs := #[.int .i64 0, .slice none 0 0, .slice none 0 0]) (t := 34) ?hr ?_; (case hd => rfl); (case hg => rfl); (case hr => exact gz)
    intro gb337 hg w49 hbox hb
    have HS3_ := (hb.cell (World.block_lt_of_cell? _ _ (hHeld.2.2.2.1))).trans (hHeld.2.2.2.1)
    have HS4_ := (hb.cell (World.block_lt_of_cell? _ _ (hHeld.2.2.2.2.1))).trans (hHeld.2.2.2.2.1)
    have HS5_ := (hb.cell (World.block_lt_of_cell? _ _ (hHeld.2.2.2.2.2.1))).trans (hHeld.2.2.2.2.2.1)
    have HS6_ := (hb.cell (World.block_lt_of_cell? _ _ (hHeld.2.2.2.2.2.2))).trans (hHeld.2.2.2.2.2.2)
    replace HO302 := am (Kd.R_below (rz HO302.out) hb)
    replace HO306 := am (Kd.S_below (sz HO306.out) hb)
    replace HO310 := am (Kd.R_below (rz HO310.out) hb)
    replace HO313 := am (Kd.S_below (sz HO313.out) hb)
    replace HL316_2 := am (Kd.R_below (rz HL316_2.out) hb)
    replace HL317_2 := am (Kd.R_below (rz HL317_2.out) hb)
    replace HL318_2 := am (Kd.R_below (rz HL318_2.out) hb)
    replace HO322 := am (Kd.R_below (rz HO322.out) hb)
    replace HO325 := am (Kd.S_below (sz HO325.out) hb)
    replace HL328_2 := am (Kd.R_below (rz HL328_2.out) hb)
    replace HR328_2 := am (Kd.C_below (cz HR328_2.out) hb)
    have BK337 := am (hbox)
    have GW337 := am ((bs hg (hz2 HB.out GE315.out GE327.out) : w.heap.size ≤ gb337))
    have GE337 := am ((bs hg (hz2 HB.out GE315.out GE327.out) : w.heap.size ≤ gb337))
    replace HB := am (below_step (hz2 HB.out GE315.out GE327.out) hb)
    have NB315_337 := am ((nl hg (bz BK315.out) : gb315 ≠ gb337))
    have NB337_315 := am ((ng hg (bz BK315.out) : gb337 ≠ gb315))
    replace BK315 := am (blk_below (bz BK315.out) hb)
    have NB327_337 := am ((nl hg (bz BK327.out) : gb327 ≠ gb337))
    have NB337_327 := am ((ng hg (bz BK327.out) : gb337 ≠ gb327))
    replace BK327 := am (blk_below (bz BK327.out) hb)
    clear hb hbox hg
    refine hK.out _ _ ⟨(blk_cell BK327.out 0).trans rfl, (blk_cell BK327.out 1).trans rfl, (blk_cell BK327.out 2).trans rfl, HS3_, HS4_, HS5_, HS6_⟩ (fun hHeld => ?_)
    clear hK K
    refine norm_ (a' := ?_) ?_ ?_
    rotate_left
    ·
     show Act.put _ (some 8) _ = _
     simp only [Act.put, List.setIfInBounds_toArray, List.set_cons_zero, List.set_cons_succ, i64_w, i32_w]
     rfl
    refine oz 4 63 HT_.out (fun K hK => ?_)
    refine goes_ Try.func20 (by kernel_rfl) rfl #[.agg #[.int .i64 t319, .slice Ao43 t320.length co43, .slice Ao45 t323.length co45], .agg #[.int .i64 ((rd_T25 t303 0).f0), .int .i64 ((rd_T25 t303 0).f1), .slice A328_2 ((rd_T25 t303 0).f2).length c328_2, .int .u64 ((rd_T25 t303 0).f3)]] (by rfl) rfl rfl lz ?_
    with_reducible refine (upload_Receive.calls k t319 _ _ t320 _ _ t323 ((rd_T25 t303 0).f0) ((rd_T25 t303 0).f1) _ _ ((rd_T25 t303 0).f2) ((rd_T25 t303 0).f3) t329 t330 t333 t336 _ ?side1 ?side2 ?side3 ?side4 ?side5 ?side6 A11.out).mono ?_
    (case side1 => repeat (first | exact (Kd.R_reads' HO322.out).2.2 | (with_reducible refine Kd.C_alloc ?_ _) | (with_reducible refine Kd.C_drewN ?_ _) | (with_reducible refine Kd.C_drew ?_)))
    (case side2 => exact (Kd.R_reads' HO322.out).2.1)
    (case side3 => repeat (first | exact (Kd.S_reads' HO325.out).2.2 | (with_reducible refine Kd.C_alloc ?_ _) | (with_reducible refine Kd.C_drewN ?_ _) | (with_reducible refine Kd.C_drew ?_)))
    (case side4 => exact (Kd.S_reads' HO325.out).2.1)
    (case side5 => repeat (first | exact (cz HR328_2.out) | (with_reducible refine Kd.C_alloc ?_ _) | (with_reducible refine Kd.C_drewN ?_ _) | (with_reducible refine Kd.C_drew ?_)))
    (case side6 => exact HC328_2.out)
    rintro e w50 ⟨v331, v334, rfl, ho0, ho1, hb⟩
    have HS3_ := (hb.cell (World.block_lt_of_cell? _ _ (hHeld.2.2.2.1))).trans (hHeld.2.2.2.1)
    have HS4_ := (hb.cell (World.block_lt_of_cell? _ _ (hHeld.2.2.2.2.1))).trans (hHeld.2.2.2.2.1)
    have HS5_ := (hb.cell (World.block_lt_of_cell? _ _ (hHeld.2.2.2.2.2.1))).trans (hHeld.2.2.2.2.2.1)
    have HS6_ := (hb.cell (World.block_lt_of_cell? _ _ (hHeld.2.2.2.2.2.2))).trans (hHeld.2.2.2.2.2.2)
    refine ⟨_, rfl, ?_⟩
    have HO332 := am (Kd.R_lower (Kd.R_new' (Kd.R_new' (Kd.R_new' (Kd.R_new' (Kd.R_new' (Kd.R_new' (Kd.R_new' ho0 (Kd.R_lt (rz HO302.out))) (Kd.R_lt (rz HO310.out))) (Kd.R_lt (rz HL316_2.out))) (Kd.R_lt (rz HL317_2.out))) (Kd.R_lt (rz HL318_2.out))) (Kd.R_lt (rz HO322.out))) (Kd.R_lt (rz HL328_2.out))) (below_size (hz3 HB.out GE315.out GE327.out GE337.out)))
    have HO335 := am (Kd.S_lower (Kd.S_new' (Kd.S_new' (Kd.S_new' (Kd.S_new' (Kd.S_new' (Kd.S_new' (Kd.S_new' (Kd.S_new' (Kd.S_new' (Kd.S_new' ho1 (Kd.R_lt (rz HO302.out))) (Kd.S_lt (sz HO306.out))) (Kd.R_lt (rz HO310.out))) (Kd.S_lt (sz HO313.out))) (Kd.R_lt (rz HL316_2.out))) (Kd.R_lt (rz HL317_2.out))) (Kd.R_lt (rz HL318_2.out))) (Kd.R_lt (rz HO322.out))) (Kd.S_lt (sz HO325.out))) (Kd.R_lt (rz HL328_2.out))) (below_size (hz3 HB.out GE315.out GE327.out GE337.out)))
    replace HO302 := am (Kd.R_elder' (rz HO302.out) (Kd.R_base ho0) hb)
    replace HO306 := am (Kd.S_mono (Kd.S_told (Kd.S_told (Kd.S_old (sz HO306.out) hb) (Kd.R_base ho0)) (Kd.S_base ho1)) (fun _ h_ => h_.1))
    replace HO310 := am (Kd.R_elder' (rz HO310.out) (Kd.R_base ho0) hb)
    replace HO313 := am (Kd.S_mono (Kd.S_told (Kd.S_told (Kd.S_old (sz HO313.out) hb) (Kd.R_base ho0)) (Kd.S_base ho1)) (fun _ h_ => h_.1))
    replace HL316_2 := am (Kd.R_elder' (rz HL316_2.out) (Kd.R_base ho0) hb)
    replace HL317_2 := am (Kd.R_elder' (rz HL317_2.out) (Kd.R_base ho0) hb)
    replace HL318_2 := am (Kd.R_elder' (rz HL318_2.out) (Kd.R_base ho0) hb)
    replace HO322 := am (Kd.R_elder' (rz HO322.out) (Kd.R_base ho0) hb)
    replace HO325 := am (Kd.S_mono (Kd.S_told (Kd.S_told (Kd.S_old (sz HO325.out) hb) (Kd.R_base ho0)) (Kd.S_base ho1)) (fun _ h_ => h_.1))
    replace HL328_2 := am (Kd.R_elder' (rz HL328_2.out) (Kd.R_base ho0) hb)
    replace BK315 := am (blk_below (bz BK315.out) hb)
    replace BK327 := am (blk_below (bz BK327.out) hb)
    replace HR328_2 := am (Kd.C_below (cz HR328_2.out) hb)
    replace BK337 := am (blk_below (bz BK337.out) hb)
    replace HB := am (below_step (hz3 HB.out GE315.out GE327.out GE337.out) hb)
    (try clear hb)
    (try clear hb2)
    (try clear hk)
    (try clear hi)
    (try clear ho0)
    (try clear ho1)
    refine hK.out _ _ ⟨(blk_cell BK327.out 0).trans rfl, (blk_cell BK327.out 1).trans rfl, (blk_cell BK327.out 2).trans rfl, HS3_, HS4_, HS5_, HS6_⟩ (fun hHeld => ?_)
    clear hK K
    refine norm_ (a' := ?_) ?_ ?_
    rotate_left
    ·
     show Act.put _ (some 63) _ = _
     simp only [Act.put, List.setIfInBounds_toArray, List.set_cons_zero, List.set_cons_succ, i64_w, i32_w]
     rfl
    refine pz 5 58 HT_.out ?_
    refine pz 6 64 HT_.out ?_
    refine pz 7 65 HT_.out ?_
    exact norm_ (by simp only [putAll, Act.put, List.setIfInBounds_toArray, List.set_cons_zero, List.set_cons_succ]) (hCont (v331, v334, gb337) _ ⟨hHeld, (rz (Kd.R_mono HL316_2.out (fun _ hk => ⟨hk.1.1, ⟨hk.1.2.1, ⟨hk.1.2.2.1, ⟨hk.1.2.2.2.1, ⟨hk.1.2.2.2.2, hk.2⟩⟩⟩⟩⟩))), (rz (Kd.R_mono HL317_2.out (fun _ hk => ⟨hk.1.1, ⟨hk.1.2.1, ⟨hk.1.2.2.1, ⟨hk.1.2.2.2.1, ⟨hk.1.2.2.2.2, hk.2⟩⟩⟩⟩⟩))), (rz (Kd.R_mono HL318_2.out (fun _ hk => ⟨hk.1.1, ⟨hk.1.2.1, ⟨hk.1.2.2.1, ⟨hk.1.2.2.2.1, ⟨hk.1.2.2.2.2, hk.2⟩⟩⟩⟩⟩))), (rz (Kd.R_mono HL328_2.out (fun _ hk => ⟨hk.1.1.1, ⟨hk.1.2, ⟨hk.1.1.2.1, ⟨hk.1.1.2.2.1, ⟨hk.1.1.2.2.2.1, ⟨hk.1.1.2.2.2.2, hk.2⟩⟩⟩⟩⟩⟩))), (rz (Kd.R_mono HO302.out (fun _ hk => ⟨hk.1.1, ⟨hk.1.2, hk.2⟩⟩))), (sz (Kd.S_mono HO306.out (fun _ hk => ⟨hk.1.1.1, ⟨hk.1.1.2.1, ⟨hk.1.1.2.2.1, ⟨hk.1.1.2.2.2.1, ⟨hk.1.1.2.2.2.2, ⟨hk.1.2, hk.2⟩⟩⟩⟩⟩⟩))), (rz (Kd.R_mono HO310.out (fun _ hk => ⟨hk.1.1, ⟨hk.1.2, hk.2⟩⟩))), (sz (Kd.S_mono HO313.out (fun _ hk => ⟨hk.1.1.1, ⟨hk.1.1.2.1, ⟨hk.1.1.2.2.1, ⟨hk.1.1.2.2.2.1, ⟨hk.1.1.2.2.2.2, ⟨hk.1.2, hk.2⟩⟩⟩⟩⟩⟩))), (rz (Kd.R_mono HO322.out (fun _ hk => ⟨hk.1.2.2.1, ⟨hk.1.2.2.2.1, ⟨hk.1.2.2.2.2, ⟨hk.1.1, ⟨hk.1.2.1, hk.2⟩⟩⟩⟩⟩))), (sz (Kd.S_mono HO325.out (fun _ hk => ⟨hk.1.1.2.2.2.2.1, ⟨hk.1.1.2.2.2.2.2.1, ⟨hk.1.1.2.2.2.2.2.2.1, ⟨hk.1.1.1, ⟨hk.1.1.2.1, ⟨hk.1.1.2.2.1, ⟨hk.1.1.2.2.2.1, ⟨hk.1.1.2.2.2.2.2.2.2, ⟨hk.1.2, hk.2⟩⟩⟩⟩⟩⟩⟩⟩⟩))), (rz (Kd.R_mono HO332.out (fun _ hk => ⟨hk.1.1.1.1.2, ⟨hk.1.1.1.2, ⟨hk.1.1.2, ⟨hk.2, ⟨hk.1.1.1.1.1.1.2, ⟨hk.1.1.1.1.1.2, hk.1.2⟩⟩⟩⟩⟩⟩))), (sz (Kd.S_mono HO335.out (fun _ hk => ⟨hk.1.1.1.1.1.2, ⟨hk.1.1.1.1.2, ⟨hk.1.1.1.2, ⟨hk.2, ⟨hk.1.1.1.1.1.1.1.1.1.2, ⟨hk.1.1.1.1.1.1.1.1.2, ⟨hk.1.1.1.1.1.1.1.2, ⟨hk.1.1.1.1.1.1.2, ⟨hk.1.1.2, ⟨hk.1.2, hk.1.1.1.1.1.1.1.1.1.1⟩⟩⟩⟩⟩⟩⟩⟩⟩⟩))), (bz BK315.out), (bz BK327.out), (bz BK337.out), GW337.out, GE337.out, NB315_337.out, NB337_315.out, NB327_337.out, NB337_327.out, (hz3 HB.out GE315.out GE327.out GE337.out)⟩)
  rintro ⟨v331, v334, gb337⟩ w51 ⟨hS_, h0_, h1_, h2_, h3_, h4_, h5_, h6_, h7_, h8_, h9_, h10_, h11_, h12_, h13_, h14_, h15_, h16_, h17_, h18_, h19_, h20_, h21_⟩
  have n0_ : Aside0 (Kd.R (Kd.int .u8) 5 w51 w.heap.size (fun k_ => some k_ ≠ (.slice Ao29 y300.length co29 : Value).ownBlock ∧ some k_ ≠ (.slice (some ad316) t303.length co37 : Value).ownBlock ∧ some k_ ≠ (.slice Ao34 t308.length co34 : Value).ownBlock ∧ some k_ ≠ (.slice Ao35 t311.length co35 : Value).ownBlock ∧ some k_ ≠ (.slice Ao43 t320.length co43 : Value).ownBlock ∧ some k_ ≠ (v331 : Value).ownBlock) (.slice A316_2 ((rd_T25 t303 2).f2).length c316_2) ((rd_T25 t303 2).f2)) := ⟨h0_⟩
  have n1_ : Aside0 (Kd.R (Kd.int .u8) 5 w51 w.heap.size (fun k_ => some k_ ≠ (.slice Ao29 y300.length co29 : Value).ownBlock ∧ some k_ ≠ (.slice (some ad316) t303.length co37 : Value).ownBlock ∧ some k_ ≠ (.slice Ao34 t308.length co34 : Value).ownBlock ∧ some k_ ≠ (.slice Ao35 t311.length co35 : Value).ownBlock ∧ some k_ ≠ (.slice Ao43 t320.length co43 : Value).ownBlock ∧ some k_ ≠ (v331 : Value).ownBlock) (.slice A316_2 ((rd_T25 t303 2).f2).length c316_2) ((rd_T25 t303 2).f2)) := ⟨h1_⟩
  have n2_ : Aside0 (Kd.R (Kd.int .u8) 5 w51 w.heap.size (fun k_ => some k_ ≠ (.slice Ao29 y300.length co29 : Value).ownBlock ∧ some k_ ≠ (.slice (some ad316) t303.length co37 : Value).ownBlock ∧ some k_ ≠ (.slice Ao34 t308.length co34 : Value).ownBlock ∧ some k_ ≠ (.slice Ao35 t311.length co35 : Value).ownBlock ∧ some k_ ≠ (.slice Ao43 t320.length co43 : Value).ownBlock ∧ some k_ ≠ (v331 : Value).ownBlock) (.slice A318_2 ((rd_T25 t303 2).f2).length c318_2) ((rd_T25 t303 2).f2)) := ⟨h2_⟩
  have n3_ : Aside0 (Kd.R (Kd.int .u8) 5 w51 w.heap.size (fun k_ => some k_ ≠ (.slice Ao29 y300.length co29 : Value).ownBlock ∧ some k_ ≠ (.slice (some ad316) t303.length co37 : Value).ownBlock ∧ some k_ ≠ (.slice Ao34 t308.length co34 : Value).ownBlock ∧ some k_ ≠ (.slice Ao35 t311.length co35 : Value).ownBlock ∧ some k_ ≠ (.slice Ao43 t320.length co43 : Value).ownBlock ∧ some k_ ≠ (.slice Ao45 t323.length co45 : Value).ownBlock ∧ some k_ ≠ (v331 : Value).ownBlock) (.slice A328_2 ((rd_T25 t303 0).f2).length c328_2) ((rd_T25 t303 0).f2)) := ⟨h3_⟩
  have n4_ : Aside0 (Kd.R (Kd.int .u8) 5 w51 w.heap.size (fun k_ => some k_ ≠ (.slice Ao34 t308.length co34 : Value).ownBlock ∧ some k_ ≠ (.slice Ao43 t320.length co43 : Value).ownBlock ∧ some k_ ≠ (v331 : Value).ownBlock) (.slice Ao29 y300.length co29) y300) := ⟨h4_⟩
  have n5_ : Aside0 (Kd.S k25 25 w51 w.heap.size (fun k_ => some k_ ≠ (.slice Ao29 y300.length co29 : Value).ownBlock ∧ some k_ ≠ (.slice Ao34 t308.length co34 : Value).ownBlock ∧ some k_ ≠ (.slice Ao35 t311.length co35 : Value).ownBlock ∧ some k_ ≠ (.slice Ao43 t320.length co43 : Value).ownBlock ∧ some k_ ≠ (.slice Ao45 t323.length co45 : Value).ownBlock ∧ some k_ ≠ (v331 : Value).ownBlock ∧ some k_ ≠ (v334 : Value).ownBlock) (.slice (some ad316) t303.length co37) t303) := ⟨h5_⟩
  have n6_ : Aside0 (Kd.R (Kd.int .u8) 5 w51 w.heap.size (fun k_ => some k_ ≠ (.slice Ao29 y300.length co29 : Value).ownBlock ∧ some k_ ≠ (.slice Ao43 t320.length co43 : Value).ownBlock ∧ some k_ ≠ (v331 : Value).ownBlock) (.slice Ao34 t308.length co34) t308) := ⟨h6_⟩
  have n7_ : Aside0 (Kd.S k25 25 w51 w.heap.size (fun k_ => some k_ ≠ (.slice Ao29 y300.length co29 : Value).ownBlock ∧ some k_ ≠ (.slice (some ad316) t303.length co37 : Value).ownBlock ∧ some k_ ≠ (.slice Ao34 t308.length co34 : Value).ownBlock ∧ some k_ ≠ (.slice Ao43 t320.length co43 : Value).ownBlock ∧ some k_ ≠ (.slice Ao45 t323.length co45 : Value).ownBlock ∧ some k_ ≠ (v331 : Value).ownBlock ∧ some k_ ≠ (v334 : Value).ownBlock) (.slice Ao35 t311.length co35) t311) := ⟨h7_⟩
  have n8_ : Aside0 (Kd.R (Kd.int .u8) 5 w51 w.heap.size (fun k_ => some k_ ≠ (.slice A316_2 ((rd_T25 t303 2).f2).length c316_2 : Value).ownBlock ∧ some k_ ≠ (.slice A316_2 ((rd_T25 t303 2).f2).length c316_2 : Value).ownBlock ∧ some k_ ≠ (.slice A318_2 ((rd_T25 t303 2).f2).length c318_2 : Value).ownBlock ∧ some k_ ≠ (.slice Ao29 y300.length co29 : Value).ownBlock ∧ some k_ ≠ (.slice Ao34 t308.length co34 : Value).ownBlock ∧ some k_ ≠ (v331 : Value).ownBlock) (.slice Ao43 t320.length co43) t320) := ⟨h8_⟩
  have n9_ : Aside0 (Kd.S k25 25 w51 w.heap.size (fun k_ => some k_ ≠ (.slice A316_2 ((rd_T25 t303 2).f2).length c316_2 : Value).ownBlock ∧ some k_ ≠ (.slice A316_2 ((rd_T25 t303 2).f2).length c316_2 : Value).ownBlock ∧ some k_ ≠ (.slice A318_2 ((rd_T25 t303 2).f2).length c318_2 : Value).ownBlock ∧ some k_ ≠ (.slice Ao29 y300.length co29 : Value).ownBlock ∧ some k_ ≠ (.slice (some ad316) t303.length co37 : Value).ownBlock ∧ some k_ ≠ (.slice Ao34 t308.length co34 : Value).ownBlock ∧ some k_ ≠ (.slice Ao35 t311.length co35 : Value).ownBlock ∧ some k_ ≠ (.slice Ao43 t320.length co43 : Value).ownBlock ∧ some k_ ≠ (v331 : Value).ownBlock ∧ some k_ ≠ (v334 : Value).ownBlock) (.slice Ao45 t323.length co45) t323) := ⟨h9_⟩
  have n10_ : Aside0 (Kd.R (Kd.int .u8) 5 w51 w.heap.size (fun k_ => some k_ ≠ (.slice A316_2 ((rd_T25 t303 2).f2).length c316_2 : Value).ownBlock ∧ some k_ ≠ (.slice A316_2 ((rd_T25 t303 2).f2).length c316_2 : Value).ownBlock ∧ some k_ ≠ (.slice A318_2 ((rd_T25 t303 2).f2).length c318_2 : Value).ownBlock ∧ some k_ ≠ (.slice A328_2 ((rd_T25 t303 0).f2).length c328_2 : Value).ownBlock ∧ some k_ ≠ (.slice Ao29 y300.length co29 : Value).ownBlock ∧ some k_ ≠ (.slice Ao34 t308.length co34 : Value).ownBlock ∧ some k_ ≠ (.slice Ao43 t320.length co43 : Value).ownBlock) v331 t330) := ⟨h10_⟩
  have n11_ : Aside0 (Kd.S k25 25 w51 w.heap.size (fun k_ => some k_ ≠ (.slice A316_2 ((rd_T25 t303 2).f2).length c316_2 : Value).ownBlock ∧ some k_ ≠ (.slice A316_2 ((rd_T25 t303 2).f2).length c316_2 : Value).ownBlock ∧ some k_ ≠ (.slice A318_2 ((rd_T25 t303 2).f2).length c318_2 : Value).ownBlock ∧ some k_ ≠ (.slice A328_2 ((rd_T25 t303 0).f2).length c328_2 : Value).ownBlock ∧ some k_ ≠ (.slice Ao29 y300.length co29 : Value).ownBlock ∧ some k_ ≠ (.slice (some ad316) t303.length co37 : Value).ownBlock ∧ some k_ ≠ (.slice Ao34 t308.length co34 : Value).ownBlock ∧ some k_ ≠ (.slice Ao35 t311.length co35 : Value).ownBlock ∧ some k_ ≠ (.slice Ao43 t320.length co43 : Value).ownBlock ∧ some k_ ≠ (.slice Ao45 t323.length co45 : Value).ownBlock ∧ some k_ ≠ (v331 : Value).ownBlock) v334 t333) := ⟨h11_⟩
  have n12_ : Aside0 (w51.heap[gb315]? = some (.cells #[.int .i64 t307, .slice Ao34 t308.length co34, .slice Ao35 t311.length co35] 34 (0, 0))) := ⟨h12_⟩
  have n13_ : Aside0 (w51.heap[gb327]? = some (.cells #[.int .i64 t319, .slice Ao43 t320.length co43, .slice Ao45 t323.length co45] 34 (0, 0))) := ⟨h13_⟩
  have n14_ : Aside0 (w51.heap[gb337]? = some (.cells #[.int .i64 0, .slice none 0 0, .slice none 0 0] 34 (0, 0))) := ⟨h14_⟩
  have n15_ : Aside0 (w.heap.size ≤ gb337) := ⟨h15_⟩
  have n16_ : Aside0 (w.heap.size ≤ gb337) := ⟨h16_⟩
  have n17_ : Aside0 (gb315 ≠ gb337) := ⟨h17_⟩
  have n18_ : Aside0 (gb337 ≠ gb315) := ⟨h18_⟩
  have n19_ : Aside0 (gb327 ≠ gb337) := ⟨h19_⟩
  have n20_ : Aside0 (gb337 ≠ gb327) := ⟨h20_⟩
  have n21_ : Aside0 (Below w.heap.size w w51) := ⟨h21_⟩
  clear HO302
  clear HO306
  clear HO310
  clear HO313
  clear HL316_2
  clear HL317_2
  clear HL318_2
  clear HO322
  clear HO325
  clear BK315
  clear BK327
  clear HB
  clear h0_ h1_ h2_ h3_ h4_ h5_ h6_ h7_ h8_ h9_ h10_ h11_ h12_ h13_ h14_ h15_ h16_ h17_ h18_ h19_ h20_ h21_
  have HL316_2 := n0_
  have HL317_2 := n1_
  have HL318_2 := n2_
  have HL328_2 := n3_
  have HO302 := n4_
  have HO306 := n5_
  have HO310 := n6_
  have HO313 := n7_
  have HO322 := n8_
  have HO325 := n9_
  have HO332 := n10_
  have HO335 := n11_
  have BK315 := n12_
  have BK327 := n13_
  have BK337 := n14_
  have GW337 := n15_
  have GE337 := n16_
  have NB315_337 := n17_
  have NB337_315 := n18_
  have NB327_337 := n19_
  have NB337_327 := n20_
  have HB := n21_
  clear n0_ n1_ n2_ n3_ n4_ n5_ n6_ n7_ n8_ n9_ n10_ n11_ n12_ n13_ n14_ n15_ n16_ n17_ n18_ n19_ n20_ n21_
  have hHeld : w51.cell? ⟨gb327, 0, none⟩ = some (.int .i64 t319) ∧ w51.cell? ⟨gb327, 1, none⟩ = some (.slice Ao43 t320.length co43) ∧ w51.cell? ⟨gb327, 2, none⟩ = some (.slice Ao45 t323.length co45) ∧ w51.cell? ad316 = some (.int .i64 ((rd_T25 t303 0).f0)) ∧ w51.cell? ⟨ad316.block, ad316.off + 1, none⟩ = some (.int .i64 ((rd_T25 t303 0).f1)) ∧ w51.cell? ⟨ad316.block, ad316.off + 2, none⟩ = some (.slice A328_2 ((rd_T25 t303 0).f2).length c328_2) ∧ w51.cell? ⟨ad316.block, ad316.off + 3, none⟩ = some (.int .u64 ((rd_T25 t303 0).f3)) := hS_
  obtain ⟨Ao53, co53, eo53⟩ := Kd.R_slice HO332.out
  (first | subst eo53 | (injection eo53 with f1_ f2_ f3_; have f4_ := f1_.symm; have f5_ := f3_.symm; clear f1_ f2_ f3_; subst f4_; subst f5_))
  obtain ⟨Ao55, co55, eo55⟩ := Kd.S_slice HO335.out
  (first | subst eo55 | (injection eo55 with f1_ f2_ f3_; have f4_ := f1_.symm; have f5_ := f3_.symm; clear f1_ f2_ f3_; subst f4_; subst f5_))
  refine norm_ (a' := ?_) ?_ ?_
  rotate_left
  ·
   simp only [putAll, Act.put, List.setIfInBounds_toArray, List.set_cons_zero, List.set_cons_succ]
   rfl
  refine one_ (i := 9) (N := none) #[true, true, true, true, true, true, true, true, true, true, false] rfl rfl (one_of HT_.out (by kernel_rfl)) (by decide) (fun K hK => ?_)
  have hs52 : w51.cell? ⟨gb337, 0, none⟩ = some (.int .i64 0) := (blk_cell BK337.out 0).trans rfl
  have hfs52 := blk_frozen BK337.out 0
  have hns52_0 := NB315_337.out
  have hns52_1 := NB327_337.out
  have hms52_0 := NB337_315.out
  have hms52_1 := NB337_327.out
  have hs54 : w51.cell? ⟨gb337, 1, none⟩ = some (.slice none 0 0) := (blk_cell BK337.out 1).trans rfl
  have hfs54 := blk_frozen BK337.out 1
  have hns54_0 := NB315_337.out
  have hns54_1 := NB327_337.out
  have hms54_0 := NB337_315.out
  have hms54_1 := NB337_327.out
  have hs56 : w51.cell? ⟨gb337, 2, none⟩ = some (.slice none 0 0) := (blk_cell BK337.out 2).trans rfl
  have hfs56 := blk_frozen BK337.out 2
  have hns56_0 := NB315_337.out
  have hns56_1 := NB327_337.out
  have hms56_0 := NB337_315.out
  have hms56_1 := NB337_327.out
  refine skip_ (w1 := ?_) (by rfl) rfl ?_ ?_
  rotate_left
  ·
   go_simp
   rfl
  refine hK.out _ _ ⟨((cell_far (p := ⟨gb337, _, none⟩) NB327_337.out _).trans (((cell_far (p := ⟨gb337, _, none⟩) NB327_337.out _).trans (((cell_far (p := ⟨gb337, _, none⟩) NB327_337.out _).trans (hHeld.1)))))), ((cell_far (p := ⟨gb337, _, none⟩) NB327_337.out _).trans (((cell_far (p := ⟨gb337, _, none⟩) NB327_337.out _).trans (((cell_far (p := ⟨gb337, _, none⟩) NB327_337.out _).trans (hHeld.2.1)))))), ((cell_far (p := ⟨gb337, _, none⟩) NB327_337.out _).trans (((cell_far (p := ⟨gb337, _, none⟩) NB327_337.out _).trans (((cell_far (p := ⟨gb337, _, none⟩) NB327_337.out _).trans (hHeld.2.2.1)))))), ((cell_far (p := ⟨gb337, _, none⟩) (ob (Kd.own_blk (Kd.S_ne HO306.out BK337.out (by decide)))) _).trans (((cell_far (p := ⟨gb337, _, none⟩) (ob (Kd.own_blk (Kd.S_ne HO306.out BK337.out (by decide)))) _).trans (((cell_far (p := ⟨gb337, _, none⟩) (ob (Kd.own_blk (Kd.S_ne HO306.out BK337.out (by decide)))) _).trans (hHeld.2.2.2.1)))))), ((cell_far (p := ⟨gb337, _, none⟩) (ob (Kd.own_blk (Kd.S_ne HO306.out BK337.out (by decide)))) _).trans (((cell_far (p := ⟨gb337, _, none⟩) (ob (Kd.own_blk (Kd.S_ne HO306.out BK337.out (by decide)))) _).trans (((cell_far (p := ⟨gb337, _, none⟩) (ob (Kd.own_blk (Kd.S_ne HO306.out BK337.out (by decide)))) _).trans (hHeld.2.2.2.2.1)))))), ((cell_far (p := ⟨gb337, _, none⟩) (ob (Kd.own_blk (Kd.S_ne HO306.out BK337.out (by decide)))) _).trans (((cell_far (p := ⟨gb337, _, none⟩) (ob (Kd.own_blk (Kd.S_ne HO306.out BK337.out (by decide)))) _).trans (((cell_far (p := ⟨gb337, _, none⟩) (ob (Kd.own_blk (Kd.S_ne HO306.out BK337.out (by decide)))) _).trans (hHeld.2.2.2.2.2.1)))))), ((cell_far (p := ⟨gb337, _, none⟩) (ob (Kd.own_blk (Kd.S_ne HO306.out BK337.out (by decide)))) _).trans (((cell_far (p := ⟨gb337, _, none⟩) (ob (Kd.own_blk (Kd.S_ne HO306.out BK337.out (by decide)))) _).trans (((cell_far (p := ⟨gb337, _, none⟩) (ob (Kd.own_blk (Kd.S_ne HO306.out BK337.out (by decide)))) _).trans (hHeld.2.2.2.2.2.2))))))⟩ (fun hHeld => ?_)
  clear hK K
  refine pz 10 9 HT_.out ?_
  refine done_ (done_of HT_.out (by kernel_rfl)) ?_
  try go_wp2
  have n0_ : Aside0 (Kd.R (Kd.int .u8) 5 (((w51.setCell ⟨gb337, 0, none⟩ (.int .i64 t329)).setCell ⟨gb337, 1, none⟩ (.slice Ao53 t330.length co53)).setCell ⟨gb337, 2, none⟩ (.slice Ao55 t333.length co55)) w.heap.size (fun k_ => some k_ ≠ (.slice Ao34 t308.length co34 : Value).ownBlock ∧ some k_ ≠ (.slice Ao43 t320.length co43 : Value).ownBlock ∧ some k_ ≠ (.slice Ao53 t330.length co53 : Value).ownBlock) (.slice Ao29 y300.length co29) y300) := ⟨by (with_reducible repeat (first | apply Kd.R_alloc | apply Kd.R_drewN | apply Kd.R_drew)); exact Kd.R_mono (rfg3 HO302.out BK337.out) (fun _ hk => ⟨hk.1.1, ⟨hk.1.2.1, hk.1.2.2⟩⟩)⟩
  have n1_ : Aside0 (Kd.S k25 25 (((w51.setCell ⟨gb337, 0, none⟩ (.int .i64 t329)).setCell ⟨gb337, 1, none⟩ (.slice Ao53 t330.length co53)).setCell ⟨gb337, 2, none⟩ (.slice Ao55 t333.length co55)) w.heap.size (fun k_ => some k_ ≠ (.slice Ao29 y300.length co29 : Value).ownBlock ∧ some k_ ≠ (.slice Ao34 t308.length co34 : Value).ownBlock ∧ some k_ ≠ (.slice Ao35 t311.length co35 : Value).ownBlock ∧ some k_ ≠ (.slice Ao43 t320.length co43 : Value).ownBlock ∧ some k_ ≠ (.slice Ao45 t323.length co45 : Value).ownBlock ∧ some k_ ≠ (.slice Ao53 t330.length co53 : Value).ownBlock ∧ some k_ ≠ (.slice Ao55 t333.length co55 : Value).ownBlock) (.slice (some ad316) t303.length co37) t303) := ⟨by (with_reducible repeat (first | apply Kd.S_alloc | apply Kd.S_drewN | apply Kd.S_drew)); exact Kd.S_mono (sfg3 HO306.out BK337.out) (fun _ hk => ⟨hk.1.1, ⟨hk.1.2.1, ⟨hk.1.2.2.1, ⟨hk.1.2.2.2.1, ⟨hk.1.2.2.2.2.1, ⟨hk.1.2.2.2.2.2.1, hk.1.2.2.2.2.2.2⟩⟩⟩⟩⟩⟩)⟩
  have n2_ : Aside0 (Kd.R (Kd.int .u8) 5 (((w51.setCell ⟨gb337, 0, none⟩ (.int .i64 t329)).setCell ⟨gb337, 1, none⟩ (.slice Ao53 t330.length co53)).setCell ⟨gb337, 2, none⟩ (.slice Ao55 t333.length co55)) w.heap.size (fun k_ => some k_ ≠ (.slice Ao29 y300.length co29 : Value).ownBlock ∧ some k_ ≠ (.slice Ao43 t320.length co43 : Value).ownBlock ∧ some k_ ≠ (.slice Ao53 t330.length co53 : Value).ownBlock) (.slice Ao34 t308.length co34) t308) := ⟨by (with_reducible repeat (first | apply Kd.R_alloc | apply Kd.R_drewN | apply Kd.R_drew)); exact Kd.R_mono (rfg3 HO310.out BK337.out) (fun _ hk => ⟨hk.1.1, ⟨hk.1.2.1, hk.1.2.2⟩⟩)⟩
  have n3_ : Aside0 (Kd.S k25 25 (((w51.setCell ⟨gb337, 0, none⟩ (.int .i64 t329)).setCell ⟨gb337, 1, none⟩ (.slice Ao53 t330.length co53)).setCell ⟨gb337, 2, none⟩ (.slice Ao55 t333.length co55)) w.heap.size (fun k_ => some k_ ≠ (.slice Ao29 y300.length co29 : Value).ownBlock ∧ some k_ ≠ (.slice (some ad316) t303.length co37 : Value).ownBlock ∧ some k_ ≠ (.slice Ao34 t308.length co34 : Value).ownBlock ∧ some k_ ≠ (.slice Ao43 t320.length co43 : Value).ownBlock ∧ some k_ ≠ (.slice Ao45 t323.length co45 : Value).ownBlock ∧ some k_ ≠ (.slice Ao53 t330.length co53 : Value).ownBlock ∧ some k_ ≠ (.slice Ao55 t333.length co55 : Value).ownBlock) (.slice Ao35 t311.length co35) t311) := ⟨by (with_reducible repeat (first | apply Kd.S_alloc | apply Kd.S_drewN | apply Kd.S_drew)); exact Kd.S_mono (sfg3 HO313.out BK337.out) (fun _ hk => ⟨hk.1.1, ⟨hk.1.2.1, ⟨hk.1.2.2.1, ⟨hk.1.2.2.2.1, ⟨hk.1.2.2.2.2.1, ⟨hk.1.2.2.2.2.2.1, hk.1.2.2.2.2.2.2⟩⟩⟩⟩⟩⟩)⟩
  have n4_ : Aside0 (Kd.R (Kd.int .u8) 5 (((w51.setCell ⟨gb337, 0, none⟩ (.int .i64 t329)).setCell ⟨gb337, 1, none⟩ (.slice Ao53 t330.length co53)).setCell ⟨gb337, 2, none⟩ (.slice Ao55 t333.length co55)) w.heap.size (fun k_ => some k_ ≠ (.slice Ao29 y300.length co29 : Value).ownBlock ∧ some k_ ≠ (.slice (some ad316) t303.length co37 : Value).ownBlock ∧ some k_ ≠ (.slice Ao34 t308.length co34 : Value).ownBlock ∧ some k_ ≠ (.slice Ao35 t311.length co35 : Value).ownBlock ∧ some k_ ≠ (.slice Ao43 t320.length co43 : Value).ownBlock ∧ some k_ ≠ (.slice Ao53 t330.length co53 : Value).ownBlock) (.slice A316_2 ((rd_T25 t303 2).f2).length c316_2) ((rd_T25 t303 2).f2)) := ⟨by (with_reducible repeat (first | apply Kd.R_alloc | apply Kd.R_drewN | apply Kd.R_drew)); exact Kd.R_mono (rfg3 HL316_2.out BK337.out) (fun _ hk => ⟨hk.1.1, ⟨hk.1.2.1, ⟨hk.1.2.2.1, ⟨hk.1.2.2.2.1, ⟨hk.1.2.2.2.2.1, hk.1.2.2.2.2.2⟩⟩⟩⟩⟩)⟩
  have n5_ : Aside0 (Kd.R (Kd.int .u8) 5 (((w51.setCell ⟨gb337, 0, none⟩ (.int .i64 t329)).setCell ⟨gb337, 1, none⟩ (.slice Ao53 t330.length co53)).setCell ⟨gb337, 2, none⟩ (.slice Ao55 t333.length co55)) w.heap.size (fun k_ => some k_ ≠ (.slice Ao29 y300.length co29 : Value).ownBlock ∧ some k_ ≠ (.slice (some ad316) t303.length co37 : Value).ownBlock ∧ some k_ ≠ (.slice Ao34 t308.length co34 : Value).ownBlock ∧ some k_ ≠ (.slice Ao35 t311.length co35 : Value).ownBlock ∧ some k_ ≠ (.slice Ao43 t320.length co43 : Value).ownBlock ∧ some k_ ≠ (.slice Ao53 t330.length co53 : Value).ownBlock) (.slice A316_2 ((rd_T25 t303 2).f2).length c316_2) ((rd_T25 t303 2).f2)) := ⟨by (with_reducible repeat (first | apply Kd.R_alloc | apply Kd.R_drewN | apply Kd.R_drew)); exact Kd.R_mono (rfg3 HL317_2.out BK337.out) (fun _ hk => ⟨hk.1.1, ⟨hk.1.2.1, ⟨hk.1.2.2.1, ⟨hk.1.2.2.2.1, ⟨hk.1.2.2.2.2.1, hk.1.2.2.2.2.2⟩⟩⟩⟩⟩)⟩
  have n6_ : Aside0 (Kd.R (Kd.int .u8) 5 (((w51.setCell ⟨gb337, 0, none⟩ (.int .i64 t329)).setCell ⟨gb337, 1, none⟩ (.slice Ao53 t330.length co53)).setCell ⟨gb337, 2, none⟩ (.slice Ao55 t333.length co55)) w.heap.size (fun k_ => some k_ ≠ (.slice Ao29 y300.length co29 : Value).ownBlock ∧ some k_ ≠ (.slice (some ad316) t303.length co37 : Value).ownBlock ∧ some k_ ≠ (.slice Ao34 t308.length co34 : Value).ownBlock ∧ some k_ ≠ (.slice Ao35 t311.length co35 : Value).ownBlock ∧ some k_ ≠ (.slice Ao43 t320.length co43 : Value).ownBlock ∧ some k_ ≠ (.slice Ao53 t330.length co53 : Value).ownBlock) (.slice A318_2 ((rd_T25 t303 2).f2).length c318_2) ((rd_T25 t303 2).f2)) := ⟨by (with_reducible repeat (first | apply Kd.R_alloc | apply Kd.R_drewN | apply Kd.R_drew)); exact Kd.R_mono (rfg3 HL318_2.out BK337.out) (fun _ hk => ⟨hk.1.1, ⟨hk.1.2.1, ⟨hk.1.2.2.1, ⟨hk.1.2.2.2.1, ⟨hk.1.2.2.2.2.1, hk.1.2.2.2.2.2⟩⟩⟩⟩⟩)⟩
  have n7_ : Aside0 (Kd.R (Kd.int .u8) 5 (((w51.setCell ⟨gb337, 0, none⟩ (.int .i64 t329)).setCell ⟨gb337, 1, none⟩ (.slice Ao53 t330.length co53)).setCell ⟨gb337, 2, none⟩ (.slice Ao55 t333.length co55)) w.heap.size (fun k_ => some k_ ≠ (.slice Ao29 y300.length co29 : Value).ownBlock ∧ some k_ ≠ (.slice Ao34 t308.length co34 : Value).ownBlock ∧ some k_ ≠ (.slice A316_2 ((rd_T25 t303 2).f2).length c316_2 : Value).ownBlock ∧ some k_ ≠ (.slice A316_2 ((rd_T25 t303 2).f2).length c316_2 : Value).ownBlock ∧ some k_ ≠ (.slice A318_2 ((rd_T25 t303 2).f2).length c318_2 : Value).ownBlock ∧ some k_ ≠ (.slice Ao53 t330.length co53 : Value).ownBlock) (.slice Ao43 t320.length co43) t320) := ⟨by (with_reducible repeat (first | apply Kd.R_alloc | apply Kd.R_drewN | apply Kd.R_drew)); exact Kd.R_mono (rfg3 HO322.out BK337.out) (fun _ hk => ⟨hk.1.2.2.2.1, ⟨hk.1.2.2.2.2.1, ⟨hk.1.1, ⟨hk.1.2.1, ⟨hk.1.2.2.1, hk.1.2.2.2.2.2⟩⟩⟩⟩⟩)⟩
  have n8_ : Aside0 (Kd.S k25 25 (((w51.setCell ⟨gb337, 0, none⟩ (.int .i64 t329)).setCell ⟨gb337, 1, none⟩ (.slice Ao53 t330.length co53)).setCell ⟨gb337, 2, none⟩ (.slice Ao55 t333.length co55)) w.heap.size (fun k_ => some k_ ≠ (.slice Ao29 y300.length co29 : Value).ownBlock ∧ some k_ ≠ (.slice (some ad316) t303.length co37 : Value).ownBlock ∧ some k_ ≠ (.slice Ao34 t308.length co34 : Value).ownBlock ∧ some k_ ≠ (.slice Ao35 t311.length co35 : Value).ownBlock ∧ some k_ ≠ (.slice A316_2 ((rd_T25 t303 2).f2).length c316_2 : Value).ownBlock ∧ some k_ ≠ (.slice A316_2 ((rd_T25 t303 2).f2).length c316_2 : Value).ownBlock ∧ some k_ ≠ (.slice A318_2 ((rd_T25 t303 2).f2).length c318_2 : Value).ownBlock ∧ some k_ ≠ (.slice Ao43 t320.length co43 : Value).ownBlock ∧ some k_ ≠ (.slice Ao53 t330.length co53 : Value).ownBlock ∧ some k_ ≠ (.slice Ao55 t333.length co55 : Value).ownBlock) (.slice Ao45 t323.length co45) t323) := ⟨by (with_reducible repeat (first | apply Kd.S_alloc | apply Kd.S_drewN | apply Kd.S_drew)); exact Kd.S_mono (sfg3 HO325.out BK337.out) (fun _ hk => ⟨hk.1.2.2.2.1, ⟨hk.1.2.2.2.2.1, ⟨hk.1.2.2.2.2.2.1, ⟨hk.1.2.2.2.2.2.2.1, ⟨hk.1.1, ⟨hk.1.2.1, ⟨hk.1.2.2.1, ⟨hk.1.2.2.2.2.2.2.2.1, ⟨hk.1.2.2.2.2.2.2.2.2.1, hk.1.2.2.2.2.2.2.2.2.2⟩⟩⟩⟩⟩⟩⟩⟩⟩)⟩
  have n9_ : Aside0 (Kd.R (Kd.int .u8) 5 (((w51.setCell ⟨gb337, 0, none⟩ (.int .i64 t329)).setCell ⟨gb337, 1, none⟩ (.slice Ao53 t330.length co53)).setCell ⟨gb337, 2, none⟩ (.slice Ao55 t333.length co55)) w.heap.size (fun k_ => some k_ ≠ (.slice Ao29 y300.length co29 : Value).ownBlock ∧ some k_ ≠ (.slice (some ad316) t303.length co37 : Value).ownBlock ∧ some k_ ≠ (.slice Ao34 t308.length co34 : Value).ownBlock ∧ some k_ ≠ (.slice Ao35 t311.length co35 : Value).ownBlock ∧ some k_ ≠ (.slice Ao43 t320.length co43 : Value).ownBlock ∧ some k_ ≠ (.slice Ao45 t323.length co45 : Value).ownBlock ∧ some k_ ≠ (.slice Ao53 t330.length co53 : Value).ownBlock) (.slice A328_2 ((rd_T25 t303 0).f2).length c328_2) ((rd_T25 t303 0).f2)) := ⟨by (with_reducible repeat (first | apply Kd.R_alloc | apply Kd.R_drewN | apply Kd.R_drew)); exact Kd.R_mono (rfg3 HL328_2.out BK337.out) (fun _ hk => ⟨hk.1.1, ⟨hk.1.2.1, ⟨hk.1.2.2.1, ⟨hk.1.2.2.2.1, ⟨hk.1.2.2.2.2.1, ⟨hk.1.2.2.2.2.2.1, hk.1.2.2.2.2.2.2⟩⟩⟩⟩⟩⟩)⟩
  have n10_ : Aside0 (Kd.R (Kd.int .u8) 5 (((w51.setCell ⟨gb337, 0, none⟩ (.int .i64 t329)).setCell ⟨gb337, 1, none⟩ (.slice Ao53 t330.length co53)).setCell ⟨gb337, 2, none⟩ (.slice Ao55 t333.length co55)) w.heap.size (fun k_ => some k_ ≠ (.slice Ao29 y300.length co29 : Value).ownBlock ∧ some k_ ≠ (.slice Ao34 t308.length co34 : Value).ownBlock ∧ some k_ ≠ (.slice A316_2 ((rd_T25 t303 2).f2).length c316_2 : Value).ownBlock ∧ some k_ ≠ (.slice A316_2 ((rd_T25 t303 2).f2).length c316_2 : Value).ownBlock ∧ some k_ ≠ (.slice A318_2 ((rd_T25 t303 2).f2).length c318_2 : Value).ownBlock ∧ some k_ ≠ (.slice Ao43 t320.length co43 : Value).ownBlock ∧ some k_ ≠ (.slice A328_2 ((rd_T25 t303 0).f2).length c328_2 : Value).ownBlock) (.slice Ao53 t330.length co53) t330) := ⟨by (with_reducible repeat (first | apply Kd.R_alloc | apply Kd.R_drewN | apply Kd.R_drew)); exact Kd.R_mono (rfg3 HO332.out BK337.out) (fun _ hk => ⟨hk.1.2.2.2.2.1, ⟨hk.1.2.2.2.2.2.1, ⟨hk.1.1, ⟨hk.1.2.1, ⟨hk.1.2.2.1, ⟨hk.1.2.2.2.2.2.2, hk.1.2.2.2.1⟩⟩⟩⟩⟩⟩)⟩
  have n11_ : Aside0 (Kd.S k25 25 (((w51.setCell ⟨gb337, 0, none⟩ (.int .i64 t329)).setCell ⟨gb337, 1, none⟩ (.slice Ao53 t330.length co53)).setCell ⟨gb337, 2, none⟩ (.slice Ao55 t333.length co55)) w.heap.size (fun k_ => some k_ ≠ (.slice Ao29 y300.length co29 : Value).ownBlock ∧ some k_ ≠ (.slice (some ad316) t303.length co37 : Value).ownBlock ∧ some k_ ≠ (.slice Ao34 t308.length co34 : Value).ownBlock ∧ some k_ ≠ (.slice Ao35 t311.length co35 : Value).ownBlock ∧ some k_ ≠ (.slice A316_2 ((rd_T25 t303 2).f2).length c316_2 : Value).ownBlock ∧ some k_ ≠ (.slice A316_2 ((rd_T25 t303 2).f2).length c316_2 : Value).ownBlock ∧ some k_ ≠ (.slice A318_2 ((rd_T25 t303 2).f2).length c318_2 : Value).ownBlock ∧ some k_ ≠ (.slice Ao43 t320.length co43 : Value).ownBlock ∧ some k_ ≠ (.slice Ao45 t323.length co45 : Value).ownBlock ∧ some k_ ≠ (.slice A328_2 ((rd_T25 t303 0).f2).length c328_2 : Value).ownBlock ∧ some k_ ≠ (.slice Ao53 t330.length co53 : Value).ownBlock) (.slice Ao55 t333.length co55) t333) := ⟨by (with_reducible repeat (first | apply Kd.S_alloc | apply Kd.S_drewN | apply Kd.S_drew)); exact Kd.S_mono (sfg3 HO335.out BK337.out) (fun _ hk => ⟨hk.1.2.2.2.2.1, ⟨hk.1.2.2.2.2.2.1, ⟨hk.1.2.2.2.2.2.2.1, ⟨hk.1.2.2.2.2.2.2.2.1, ⟨hk.1.1, ⟨hk.1.2.1, ⟨hk.1.2.2.1, ⟨hk.1.2.2.2.2.2.2.2.2.1, ⟨hk.1.2.2.2.2.2.2.2.2.2.1, ⟨hk.1.2.2.2.1, hk.1.2.2.2.2.2.2.2.2.2.2⟩⟩⟩⟩⟩⟩⟩⟩⟩⟩)⟩
  have n12_ : Aside0 ((((w51.setCell ⟨gb337, 0, none⟩ (.int .i64 t329)).setCell ⟨gb337, 1, none⟩ (.slice Ao53 t330.length co53)).setCell ⟨gb337, 2, none⟩ (.slice Ao55 t333.length co55)).heap[gb315]? = some (.cells #[.int .i64 t307, .slice Ao34 t308.length co34, .slice Ao35 t311.length co35] 34 (0, 0))) := ⟨bf1 NB315_337.out BK315.out⟩
  have n13_ : Aside0 ((((w51.setCell ⟨gb337, 0, none⟩ (.int .i64 t329)).setCell ⟨gb337, 1, none⟩ (.slice Ao53 t330.length co53)).setCell ⟨gb337, 2, none⟩ (.slice Ao55 t333.length co55)).heap[gb327]? = some (.cells #[.int .i64 t319, .slice Ao43 t320.length co43, .slice Ao45 t323.length co45] 34 (0, 0))) := ⟨bf1 NB327_337.out BK327.out⟩
  have n14_ : Aside0 ((((w51.setCell ⟨gb337, 0, none⟩ (.int .i64 t329)).setCell ⟨gb337, 1, none⟩ (.slice Ao53 t330.length co53)).setCell ⟨gb337, 2, none⟩ (.slice Ao55 t333.length co55)).heap[gb337]? = some (.cells #[.int .i64 t329, .slice Ao53 t330.length co53, .slice Ao55 t333.length co55] 34 (0, 0))) := ⟨by (with_reducible repeat (first | refine blk_drewN ?_ _ | refine blk_drew ?_ | refine blk_alloc ?_ _)); refine blk_put (cs := #[.int .i64 t329, .slice Ao53 t330.length co53, .slice none 0 0]) ?_ 2 _ rfl; (with_reducible repeat (first | refine blk_drewN ?_ _ | refine blk_drew ?_ | refine blk_alloc ?_ _)); refine blk_put (cs := #[.int .i64 t329, .slice none 0 0, .slice none 0 0]) ?_ 1 _ rfl; (with_reducible repeat (first | refine blk_drewN ?_ _ | refine blk_drew ?_ | refine blk_alloc ?_ _)); refine blk_put (cs := #[.int .i64 0, .slice none 0 0, .slice none 0 0]) ?_ 0 _ rfl; (with_reducible repeat (first | refine blk_drewN ?_ _ | refine blk_drew ?_ | refine blk_alloc ?_ _)); exact BK337.out⟩
  have n15_ : Aside0 (Below w.heap.size w (((w51.setCell ⟨gb337, 0, none⟩ (.int .i64 t329)).setCell ⟨gb337, 1, none⟩ (.slice Ao53 t330.length co53)).setCell ⟨gb337, 2, none⟩ (.slice Ao55 t333.length co55))) := ⟨hz3 HB.out GE315.out GE327.out GE337.out⟩
  (try clear HO302)
  (try clear HO306)
  (try clear HO310)
  (try clear HO313)
  (try clear HL316_2)
  (try clear HL317_2)
  (try clear HL318_2)
  (try clear HO322)
  (try clear HO325)
  (try clear HL328_2)
  (try clear HO332)
  (try clear HO335)
  (try clear BK315)
  (try clear BK327)
  (try clear BK337)
  (try clear HB)
  generalize (((w51.setCell ⟨gb337, 0, none⟩ (.int .i64 t329)).setCell ⟨gb337, 1, none⟩ (.slice Ao53 t330.length co53)).setCell ⟨gb337, 2, none⟩ (.slice Ao55 t333.length co55)) = w57 at n0_ n1_ n2_ n3_ n4_ n5_ n6_ n7_ n8_ n9_ n10_ n11_ n12_ n13_ n14_ n15_ ⊢
  have HO302 := n0_
  have HO306 := n1_
  have HO310 := n2_
  have HO313 := n3_
  have HL316_2 := n4_
  have HL317_2 := n5_
  have HL318_2 := n6_
  have HO322 := n7_
  have HO325 := n8_
  have HL328_2 := n9_
  have HO332 := n10_
  have HO335 := n11_
  have BK315 := n12_
  have BK327 := n13_
  have BK337 := n14_
  have HB := n15_
  clear n0_ n1_ n2_ n3_ n4_ n5_ n6_ n7_ n8_ n9_ n10_ n11_ n12_ n13_ n14_ n15_
  replace HO302 := am (Kd.R_drew HO302.out)
  replace HO306 := am (Kd.S_drew HO306.out)
  replace HO310 := am (Kd.R_drew HO310.out)
  replace HO313 := am (Kd.S_drew HO313.out)
  replace HL316_2 := am (Kd.R_drew HL316_2.out)
  replace HL317_2 := am (Kd.R_drew HL317_2.out)
  replace HL318_2 := am (Kd.R_drew HL318_2.out)
  replace HO322 := am (Kd.R_drew HO322.out)
  replace HO325 := am (Kd.S_drew HO325.out)
  replace HL328_2 := am (Kd.R_drew HL328_2.out)
  replace HO332 := am (Kd.R_drew HO332.out)
  replace HO335 := am (Kd.S_drew HO335.out)
  replace BK315 := am (blk_drew BK315.out)
  replace BK327 := am (blk_drew BK327.out)
  replace BK337 := am (blk_drew BK337.out)
  replace HB := am (below_drew1 HB.out)
  have p338 : 0 ≤ (1 : Int) := (by omega)
  have q338 : 1 < (t303.length : Int) := of_decide_eq_true az
  obtain ⟨ad338, A338_2, c338_2, e338, hx338_0, hx338_1, hx338_2, hx338_3, hl338_2, hi338_2⟩ := at_T25 (Kd.S_reads' HO306.out).2.2 1 p338 q338
  obtain rfl : ad316 = ad338 := (by injection e338)
  obtain ⟨ce338, hce338, hMe338, hcc338⟩ := Kd.S_get HO306.out z25 1 p338 (by first | exact q338 | exact of_decide_eq_true az | (have e_ := (Kd.S_reads' HO306.out).1; omega))
  obtain ⟨ve338_2, rfl, ge338_2⟩ := k25_openM hMe338
  have hv338_2 := hcc338 2 _ rfl
  rw [add_field _ _ 2 (by omega)] at hv338_2
  replace hv338_2 := Option.some.inj (hv338_2.symm.trans hx338_2)
  rw [hv338_2] at ge338_2
  have HL338_2 := am (show Kd.R (Kd.int .u8) 5 _ _ _ _ ((rd_T25 t303 1).f2) from ge338_2)
  clear hv338_2 ge338_2
  clear hcc338 hce338
  (try simp only [show (1 : Int).toNat = 1 from rfl, Nat.reduceMul, Nat.reduceEqDiff, Go.Addr.add, ↓reduceIte] at hx338_0)
  (try simp only [show (1 : Int).toNat = 1 from rfl, Nat.reduceMul, Nat.reduceEqDiff, Go.Addr.add, ↓reduceIte] at hx338_1)
  (try simp only [show (1 : Int).toNat = 1 from rfl, Nat.reduceMul, Nat.reduceEqDiff, Go.Addr.add, ↓reduceIte] at hx338_2)
  (try simp only [show (1 : Int).toNat = 1 from rfl, Nat.reduceMul, Nat.reduceEqDiff, Go.Addr.add, ↓reduceIte] at hx338_3)
  have qi338 : (1 < t303.length) = True := eq_true (by omega)
  (try rw [show ((1 : Int)).toNat = 1 from rfl] at hx338_0)
  (try rw [show 1 * 4 = 4 from rfl] at hx338_0)
  (try rw [show ((1 : Int)).toNat = 1 from rfl] at hx338_1)
  (try rw [show 1 * 4 = 4 from rfl] at hx338_1)
  (try rw [show ((1 : Int)).toNat = 1 from rfl] at hx338_2)
  (try rw [show 1 * 4 = 4 from rfl] at hx338_2)
  (try rw [show ((1 : Int)).toNat = 1 from rfl] at hx338_3)
  (try rw [show 1 * 4 = 4 from rfl] at hx338_3)
  have HR338_2 := am hi338_2
  have HC338_2 := am hl338_2
  clear hi338_2 hl338_2
  replace p338 := eq_true p338
  replace q338 := eq_true q338
  refine start_ (n := 11) (S := fun w' => w'.cell? ⟨gb337, 0, none⟩ = some (.int .i64 t329) ∧ w'.cell? ⟨gb337, 1, none⟩ = some (.slice Ao53 t330.length co53) ∧ w'.cell? ⟨gb337, 2, none⟩ = some (.slice Ao55 t333.length co55) ∧ w'.cell? ⟨ad316.block, ad316.off + 4, none⟩ = some (.int .i64 ((rd_T25 t303 1).f0)) ∧ w'.cell? ⟨ad316.block, ad316.off + 4 + 1, none⟩ = some (.int .i64 ((rd_T25 t303 1).f1)) ∧ w'.cell? ⟨ad316.block, ad316.off + 4 + 2, none⟩ = some (.slice A338_2 ((rd_T25 t303 1).f2).length c338_2) ∧ w'.cell? ⟨ad316.block, ad316.off + 4 + 3, none⟩ = some (.int .u64 ((rd_T25 t303 1).f3))) (ds := []) #[false, false, false, false, false, false, false, false, false, false, false] (by kernel_rfl) rfl rfl ⟨(blk_cell BK337.out 0).trans rfl, (blk_cell BK337.out 1).trans rfl, (blk_cell BK337.out 2).trans rfl, hx338_0, hx338_1, hx338_2, hx338_3⟩ (fun hHeld => ?_); refine with_tabW examboardlaw53_awake.tab8 examboardlaw53_awake.bits8 (fun HT_ HW_ => ?_)
  generalize w57.drew = w58 at HO302 HO306 HO310 HO313 HL316_2 HL317_2 HL318_2 HO322 HO325 HL328_2 HO332 HO335 BK315 BK327 BK337 HB HL338_2 HR338_2 hx338_0 hx338_1 hx338_2 hx338_3 hHeld ⊢
  refine pz 1 68 HT_.out ?_
  refine pz 2 69 HT_.out ?_
  refine tz7 0 67 HT_.out HW_.out hHeld ?_
  refine tz7 3 70 HT_.out HW_.out hHeld ?_
  refine join_ (σ := Value × Value × Nat) 2 #[true, true, true, true, true, true, true, true, true, false, false] (fun s_ => [(71, .tuple #[.agg #[.int .i64 t339, s_.1, s_.2.1], .int .i64 t346]), (10, .pointer (some ⟨s_.2.2, 0, none⟩)), (66, .tuple #[.agg #[.int .i64 t339, s_.1, s_.2.1], .int .i64 t346]), (72, .agg #[.int .i64 t339, s_.1, s_.2.1]), (73, .int .i64 t346)]) (fun s_ w' => (w'.cell? ⟨gb337, 0, none⟩ = some (.int .i64 t329) ∧ w'.cell? ⟨gb337, 1, none⟩ = some (.slice Ao53 t330.length co53) ∧ w'.cell? ⟨gb337, 2, none⟩ = some (.slice Ao55 t333.length co55) ∧ w'.cell? ⟨ad316.block, ad316.off + 4, none⟩ = some (.int .i64 ((rd_T25 t303 1).f0)) ∧ w'.cell? ⟨ad316.block, ad316.off + 4 + 1, none⟩ = some (.int .i64 ((rd_T25 t303 1).f1)) ∧ w'.cell? ⟨ad316.block, ad316.off + 4 + 2, none⟩ = some (.slice A338_2 ((rd_T25 t303 1).f2).length c338_2) ∧ w'.cell? ⟨ad316.block, ad316.off + 4 + 3, none⟩ = some (.int .u64 ((rd_T25 t303 1).f3))) ∧ (Kd.R (Kd.int .u8) 5 w' w.heap.size (fun k_ => some k_ ≠ (.slice Ao29 y300.length co29 : Value).ownBlock ∧ some k_ ≠ (.slice (some ad316) t303.length co37 : Value).ownBlock ∧ some k_ ≠ (.slice Ao34 t308.length co34 : Value).ownBlock ∧ some k_ ≠ (.slice Ao35 t311.length co35 : Value).ownBlock ∧ some k_ ≠ (.slice Ao43 t320.length co43 : Value).ownBlock ∧ some k_ ≠ (.slice Ao53 t330.length co53 : Value).ownBlock ∧ some k_ ≠ (s_.1 : Value).ownBlock) (.slice A316_2 ((rd_T25 t303 2).f2).length c316_2) ((rd_T25 t303 2).f2)) ∧ (Kd.R (Kd.int .u8) 5 w' w.heap.size (fun k_ => some k_ ≠ (.slice Ao29 y300.length co29 : Value).ownBlock ∧ some k_ ≠ (.slice (some ad316) t303.length co37 : Value).ownBlock ∧ some k_ ≠ (.slice Ao34 t308.length co34 : Value).ownBlock ∧ some k_ ≠ (.slice Ao35 t311.length co35 : Value).ownBlock ∧ some k_ ≠ (.slice Ao43 t320.length co43 : Value).ownBlock ∧ some k_ ≠ (.slice Ao53 t330.length co53 : Value).ownBlock ∧ some k_ ≠ (s_.1 : Value).ownBlock) (.slice A316_2 ((rd_T25 t303 2).f2).length c316_2) ((rd_T25 t303 2).f2)) ∧ (Kd.R (Kd.int .u8) 5 w' w.heap.size (fun k_ => some k_ ≠ (.slice Ao29 y300.length co29 : Value).ownBlock ∧ some k_ ≠ (.slice (some ad316) t303.length co37 : Value).ownBlock ∧ some k_ ≠ (.slice Ao34 t308.length co34 : Value).ownBlock ∧ some k_ ≠ (.slice Ao35 t311.length co35 : Value).ownBlock ∧ some k_ ≠ (.slice Ao43 t320.length co43 : Value).ownBlock ∧ some k_ ≠ (.slice Ao53 t330.length co53 : Value).ownBlock ∧ some k_ ≠ (s_.1 : Value).ownBlock) (.slice A318_2 ((rd_T25 t303 2).f2).length c318_2) ((rd_T25 t303 2).f2)) ∧ (Kd.R (Kd.int .u8) 5 w' w.heap.size (fun k_ => some k_ ≠ (.slice Ao29 y300.length co29 : Value).ownBlock ∧ some k_ ≠ (.slice (some ad316) t303.length co37 : Value).ownBlock ∧ some k_ ≠ (.slice Ao34 t308.length co34 : Value).ownBlock ∧ some k_ ≠ (.slice Ao35 t311.length co35 : Value).ownBlock ∧ some k_ ≠ (.slice Ao43 t320.length co43 : Value).ownBlock ∧ some k_ ≠ (.slice Ao45 t323.length co45 : Value).ownBlock ∧ some k_ ≠ (.slice Ao53 t330.length co53 : Value).ownBlock ∧ some k_ ≠ (s_.1 : Value).ownBlock) (.slice A328_2 ((rd_T25 t303 0).f2).length c328_2) ((rd_T25 t303 0).f2)) ∧ (Kd.R (Kd.int .u8) 5 w' w.heap.size (fun k_ => some k_ ≠ (.slice Ao29 y300.length co29 : Value).ownBlock ∧ some k_ ≠ (.slice (some ad316) t303.length co37 : Value).ownBlock ∧ some k_ ≠ (.slice Ao34 t308.length co34 : Value).ownBlock ∧ some k_ ≠ (.slice Ao35 t311.length co35 : Value).ownBlock ∧ some k_ ≠ (.slice Ao43 t320.length co43 : Value).ownBlock ∧ some k_ ≠ (.slice Ao45 t323.length co45 : Value).ownBlock ∧ some k_ ≠ (.slice Ao53 t330.length co53 : Value).ownBlock ∧ some k_ ≠ (.slice Ao55 t333.length co55 : Value).ownBlock ∧ some k_ ≠ (s_.1 : Value).ownBlock) (.slice A338_2 ((rd_T25 t303 1).f2).length c338_2) ((rd_T25 t303 1).f2)) ∧ (Kd.R (Kd.int .u8) 5 w' w.heap.size (fun k_ => some k_ ≠ (.slice Ao34 t308.length co34 : Value).ownBlock ∧ some k_ ≠ (.slice Ao43 t320.length co43 : Value).ownBlock ∧ some k_ ≠ (.slice Ao53 t330.length co53 : Value).ownBlock ∧ some k_ ≠ (s_.1 : Value).ownBlock) (.slice Ao29 y300.length co29) y300) ∧ (Kd.S k25 25 w' w.heap.size (fun k_ => some k_ ≠ (.slice Ao29 y300.length co29 : Value).ownBlock ∧ some k_ ≠ (.slice Ao34 t308.length co34 : Value).ownBlock ∧ some k_ ≠ (.slice Ao35 t311.length co35 : Value).ownBlock ∧ some k_ ≠ (.slice Ao43 t320.length co43 : Value).ownBlock ∧ some k_ ≠ (.slice Ao45 t323.length co45 : Value).ownBlock ∧ some k_ ≠ (.slice Ao53 t330.length co53 : Value).ownBlock ∧ some k_ ≠ (.slice Ao55 t333.length co55 : Value).ownBlock ∧ some k_ ≠ (s_.1 : Value).ownBlock ∧ some k_ ≠ (s_.2.1 : Value).ownBlock) (.slice (some ad316) t303.length co37) t303) ∧ (Kd.R (Kd.int .u8) 5 w' w.heap.size (fun k_ => some k_ ≠ (.slice Ao29 y300.length co29 : Value).ownBlock ∧ some k_ ≠ (.slice Ao43 t320.length co43 : Value).ownBlock ∧ some k_ ≠ (.slice Ao53 t330.length co53 : Value).ownBlock ∧ some k_ ≠ (s_.1 : Value).ownBlock) (.slice Ao34 t308.length co34) t308) ∧ (Kd.S k25 25 w' w.heap.size (fun k_ => some k_ ≠ (.slice Ao29 y300.length co29 : Value).ownBlock ∧ some k_ ≠ (.slice (some ad316) t303.length co37 : Value).ownBlock ∧ some k_ ≠ (.slice Ao34 t308.length co34 : Value).ownBlock ∧ some k_ ≠ (.slice Ao43 t320.length co43 : Value).ownBlock ∧ some k_ ≠ (.slice Ao45 t323.length co45 : Value).ownBlock ∧ some k_ ≠ (.slice Ao53 t330.length co53 : Value).ownBlock ∧ some k_ ≠ (.slice Ao55 t333.length co55 : Value).ownBlock ∧ some k_ ≠ (s_.1 : Value).ownBlock ∧ some k_ ≠ (s_.2.1 : Value).ownBlock) (.slice Ao35 t311.length co35) t311) ∧ (Kd.R (Kd.int .u8) 5 w' w.heap.size (fun k_ => some k_ ≠ (.slice A316_2 ((rd_T25 t303 2).f2).length c316_2 : Value).ownBlock ∧ some k_ ≠ (.slice A316_2 ((rd_T25 t303 2).f2).length c316_2 : Value).ownBlock ∧ some k_ ≠ (.slice A318_2 ((rd_T25 t303 2).f2).length c318_2 : Value).ownBlock ∧ some k_ ≠ (.slice Ao29 y300.length co29 : Value).ownBlock ∧ some k_ ≠ (.slice Ao34 t308.length co34 : Value).ownBlock ∧ some k_ ≠ (.slice Ao53 t330.length co53 : Value).ownBlock ∧ some k_ ≠ (s_.1 : Value).ownBlock) (.slice Ao43 t320.length co43) t320) ∧ (Kd.S k25 25 w' w.heap.size (fun k_ => some k_ ≠ (.slice A316_2 ((rd_T25 t303 2).f2).length c316_2 : Value).ownBlock ∧ some k_ ≠ (.slice A316_2 ((rd_T25 t303 2).f2).length c316_2 : Value).ownBlock ∧ some k_ ≠ (.slice A318_2 ((rd_T25 t303 2).f2).length c318_2 : Value).ownBlock ∧ some k_ ≠ (.slice Ao29 y300.length co29 : Value).ownBlock ∧ some k_ ≠ (.slice (some ad316) t303.length co37 : Value).ownBlock ∧ some k_ ≠ (.slice Ao34 t308.length co34 : Value).ownBlock ∧ some k_ ≠ (.slice Ao35 t311.length co35 : Value).ownBlock ∧ some k_ ≠ (.slice Ao43 t320.length co43 : Value).ownBlock ∧ some k_ ≠ (.slice Ao53 t330.length co53 : Value).ownBlock ∧ some k_ ≠ (.slice Ao55 t333.length co55 : Value).ownBlock ∧ some k_ ≠ (s_.1 : Value).ownBlock ∧ some k_ ≠ (s_.2.1 : Value).ownBlock) (.slice Ao45 t323.length co45) t323) ∧ (Kd.R (Kd.int .u8) 5 w' w.heap.size (fun k_ => some k_ ≠ (.slice A316_2 ((rd_T25 t303 2).f2).length c316_2 : Value).ownBlock ∧ some k_ ≠ (.slice A316_2 ((rd_T25 t303 2).f2).length c316_2 : Value).ownBlock ∧ some k_ ≠ (.slice A318_2 ((rd_T25 t303 2).f2).length c318_2 : Value).ownBlock ∧ some k_ ≠ (.slice A328_2 ((rd_T25 t303 0).f2).length c328_2 : Value).ownBlock ∧ some k_ ≠ (.slice Ao29 y300.length co29 : Value).ownBlock ∧ some k_ ≠ (.slice Ao34 t308.length co34 : Value).ownBlock ∧ some k_ ≠ (.slice Ao43 t320.length co43 : Value).ownBlock ∧ some k_ ≠ (s_.1 : Value).ownBlock) (.slice Ao53 t330.length co53) t330) ∧ (Kd.S k25 25 w' w.heap.size (fun k_ => some k_ ≠ (.slice A316_2 ((rd_T25 t303 2).f2).length c316_2 : Value).ownBlock ∧ some k_ ≠ (.slice A316_2 ((rd_T25 t303 2).f2).length c316_2 : Value).ownBlock ∧ some k_ ≠ (.slice A318_2 ((rd_T25 t303 2).f2).length c318_2 : Value).ownBlock ∧ some k_ ≠ (.slice A328_2 ((rd_T25 t303 0).f2).length c328_2 : Value).ownBlock ∧ some k_ ≠ (.slice Ao29 y300.length co29 : Value).ownBlock ∧ some k_ ≠ (.slice (some ad316) t303.length co37 : Value).ownBlock ∧ some k_ ≠ (.slice Ao34 t308.length co34 : Value).ownBlock ∧ some k_ ≠ (.slice Ao35 t311.length co35 : Value).ownBlock ∧ some k_ ≠ (.slice Ao43 t320.length co43 : Value).ownBlock ∧ some k_ ≠ (.slice Ao45 t323.length co45 : Value).ownBlock ∧ some k_ ≠ (.slice Ao53 t330.length co53 : Value).ownBlock ∧ some k_ ≠ (s_.1 : Value).ownBlock ∧ some k_ ≠ (s_.2.1 : Value).ownBlock) (.slice Ao55 t333.length co55) t333) ∧ (Kd.R (Kd.int .u8) 5 w' w.heap.size (fun k_ => some k_ ≠ (.slice A316_2 ((rd_T25 t303 2).f2).length c316_2 : Value).ownBlock ∧ some k_ ≠ (.slice A316_2 ((rd_T25 t303 2).f2).length c316_2 : Value).ownBlock ∧ some k_ ≠ (.slice A318_2 ((rd_T25 t303 2).f2).length c318_2 : Value).ownBlock ∧ some k_ ≠ (.slice A328_2 ((rd_T25 t303 0).f2).length c328_2 : Value).ownBlock ∧ some k_ ≠ (.slice A338_2 ((rd_T25 t303 1).f2).length c338_2 : Value).ownBlock ∧ some k_ ≠ (.slice Ao29 y300.length co29 : Value).ownBlock ∧ some k_ ≠ (.slice Ao34 t308.length co34 : Value).ownBlock ∧ some k_ ≠ (.slice Ao43 t320.length co43 : Value).ownBlock ∧ some k_ ≠ (.slice Ao53 t330.length co53 : Value).ownBlock) s_.1 t340) ∧ (Kd.S k25 25 w' w.heap.size (fun k_ => some k_ ≠ (.slice A316_2 ((rd_T25 t303 2).f2).length c316_2 : Value).ownBlock ∧ some k_ ≠ (.slice A316_2 ((rd_T25 t303 2).f2).length c316_2 : Value).ownBlock ∧ some k_ ≠ (.slice A318_2 ((rd_T25 t303 2).f2).length c318_2 : Value).ownBlock ∧ some k_ ≠ (.slice A328_2 ((rd_T25 t303 0).f2).length c328_2 : Value).ownBlock ∧ some k_ ≠ (.slice A338_2 ((rd_T25 t303 1).f2).length c338_2 : Value).ownBlock ∧ some k_ ≠ (.slice Ao29 y300.length co29 : Value).ownBlock ∧ some k_ ≠ (.slice (some ad316) t303.length co37 : Value).ownBlock ∧ some k_ ≠ (.slice Ao34 t308.length co34 : Value).ownBlock ∧ some k_ ≠ (.slice Ao35 t311.length co35 : Value).ownBlock ∧ some k_ ≠ (.slice Ao43 t320.length co43 : Value).ownBlock ∧ some k_ ≠ (.slice Ao45 t323.length co45 : Value).ownBlock ∧ some k_ ≠ (.slice Ao53 t330.length co53 : Value).ownBlock ∧ some k_ ≠ (.slice Ao55 t333.length co55 : Value).ownBlock ∧ some k_ ≠ (s_.1 : Value).ownBlock) s_.2.1 t343) ∧ (w'.heap[gb315]? = some (.cells #[.int .i64 t307, .slice Ao34 t308.length co34, .slice Ao35 t311.length co35] 34 (0, 0))) ∧ (w'.heap[gb327]? = some (.cells #[.int .i64 t319, .slice Ao43 t320.length co43, .slice Ao45 t323.length co45] 34 (0, 0))) ∧ (w'.heap[gb337]? = some (.cells #[.int .i64 t329, .slice Ao53 t330.length co53, .slice Ao55 t333.length co55] 34 (0, 0))) ∧ (w'.heap[s_.2.2]? = some (.cells #[.int .i64 0, .slice none 0 0, .slice none 0 0] 34 (0, 0))) ∧ (w.heap.size ≤ s_.2.2) ∧ (w.heap.size ≤ s_.2.2) ∧ (gb315 ≠ s_.2.2) ∧ (s_.2.2 ≠ gb315) ∧ (gb327 ≠ s_.2.2) ∧ (s_.2.2 ≠ gb327) ∧ (gb337 ≠ s_.2.2) ∧ (s_.2.2 ≠ gb337) ∧ (Below w.heap.size w w')) ?_ ?_
  rotate_left
  ·
   intro hCont
   refine two_ (i := 4) (j := 8) (Ni := some 71) (Nj := some 10) #[true, true, true, true, true, false, false, false, false, false, false] #[true, true, true, true, false, false, false, false, true, false, false] rfl rfl rfl rfl (two_of HT_.out (by kernel_rfl)) (by decide) (by decide) (fun K hK => ?_) (fun K hK => ?_)
   ·
    skip
    refine goes_ Try.func20 (by kernel_rfl) rfl #[.agg #[.int .i64 t329, .slice Ao53 t330.length co53, .slice Ao55 t333.length co55], .agg #[.int .i64 ((rd_T25 t303 1).f0), .int .i64 ((rd_T25 t303 1).f1), .slice A338_2 ((rd_T25 t303 1).f2).length c338_2, .int .u64 ((rd_T25 t303 1).f3)]] (by rfl) rfl rfl lz ?_
    with_reducible refine (upload_Receive.calls k t329 _ _ t330 _ _ t333 ((rd_T25 t303 1).f0) ((rd_T25 t303 1).f1) _ _ ((rd_T25 t303 1).f2) ((rd_T25 t303 1).f3) t339 t340 t343 t346 _ ?side1 ?side2 ?side3 ?side4 ?side5 ?side6 A13.out).mono ?_
    (case side1 => repeat (first | exact (Kd.R_reads' HO332.out).2.2 | (with_reducible refine Kd.C_alloc ?_ _) | (with_reducible refine Kd.C_drewN ?_ _) | (with_reducible refine Kd.C_drew ?_)))
    (case side2 => exact (Kd.R_reads' HO332.out).2.1)
    (case side3 => repeat (first | exact (Kd.S_reads' HO335.out).2.2 | (with_reducible refine Kd.C_alloc ?_ _) | (with_reducible refine Kd.C_drewN ?_ _) | (with_reducible refine Kd.C_drew ?_)))
    (case side4 => exact (Kd.S_reads' HO335.out).2.1)
    (case side5 => repeat (first | exact (cz HR338_2.out) | (with_reducible refine Kd.C_alloc ?_ _) | (with_reducible refine Kd.C_drewN ?_ _) | (with_reducible refine Kd.C_drew ?_)))
    (case side6 => exact HC338_2.out)
    rintro e w59 ⟨v341, v344, rfl, ho0, ho1, hb⟩
    have HS3_ := (hb.cell (World.block_lt_of_cell? _ _ (hHeld.2.2.2.1))).trans (hHeld.2.2.2.1)
    have HS4_ := (hb.cell (World.block_lt_of_cell? _ _ (hHeld.2.2.2.2.1))).trans (hHeld.2.2.2.2.1)
    have HS5_ := (hb.cell (World.block_lt_of_cell? _ _ (hHeld.2.2.2.2.2.1))).trans (hHeld.2.2.2.2.2.1)
    have HS6_ := (hb.cell (World.block_lt_of_cell? _ _ (hHeld.2.2.2.2.2.2))).trans (hHeld.2.2.2.2.2.2)
    refine ⟨_, rfl, ?_⟩
    have HO342 := am (Kd.R_lower (Kd.R_new' (Kd.R_new' (Kd.R_new' (Kd.R_new' (Kd.R_new' (Kd.R_new' (Kd.R_new' (Kd.R_new' (Kd.R_new' ho0 (Kd.R_lt (rz HO302.out))) (Kd.R_lt (rz HO310.out))) (Kd.R_lt (rz HL316_2.out))) (Kd.R_lt (rz HL317_2.out))) (Kd.R_lt (rz HL318_2.out))) (Kd.R_lt (rz HO322.out))) (Kd.R_lt (rz HL328_2.out))) (Kd.R_lt (rz HO332.out))) (Kd.R_lt (rz HL338_2.out))) (below_size (hz3 HB.out GE315.out GE327.out GE337.out)))
    have HO345 := am (Kd.S_lower (Kd.S_new' (Kd.S_new' (Kd.S_new' (Kd.S_new' (Kd.S_new' (Kd.S_new' (Kd.S_new' (Kd.S_new' (Kd.S_new' (Kd.S_new' (Kd.S_new' (Kd.S_new' (Kd.S_new' ho1 (Kd.R_lt (rz HO302.out))) (Kd.S_lt (sz HO306.out))) (Kd.R_lt (rz HO310.out))) (Kd.S_lt (sz HO313.out))) (Kd.R_lt (rz HL316_2.out))) (Kd.R_lt (rz HL317_2.out))) (Kd.R_lt (rz HL318_2.out))) (Kd.R_lt (rz HO322.out))) (Kd.S_lt (sz HO325.out))) (Kd.R_lt (rz HL328_2.out))) (Kd.R_lt (rz HO332.out))) (Kd.S_lt (sz HO335.out))) (Kd.R_lt (rz HL338_2.out))) (below_size (hz3 HB.out GE315.out GE327.out GE337.out)))
    replace HO302 := am (Kd.R_elder' (rz HO302.out) (Kd.R_base ho0) hb)
    replace HO306 := am (Kd.S_mono (Kd.S_told (Kd.S_told (Kd.S_old (sz HO306.out) hb) (Kd.R_base ho0)) (Kd.S_base ho1)) (fun _ h_ => h_.1))
    replace HO310 := am (Kd.R_elder' (rz HO310.out) (Kd.R_base ho0) hb)
    replace HO313 := am (Kd.S_mono (Kd.S_told (Kd.S_told (Kd.S_old (sz HO313.out) hb) (Kd.R_base ho0)) (Kd.S_base ho1)) (fun _ h_ => h_.1))
    replace HL316_2 := am (Kd.R_elder' (rz HL316_2.out) (Kd.R_base ho0) hb)
    replace HL317_2 := am (Kd.R_elder' (rz HL317_2.out) (Kd.R_base ho0) hb)
    replace HL318_2 := am (Kd.R_elder' (rz HL318_2.out) (Kd.R_base ho0) hb)
    replace HO322 := am (Kd.R_elder' (rz HO322.out) (Kd.R_base ho0) hb)
    replace HO325 := am (Kd.S_mono (Kd.S_told (Kd.S_told (Kd.S_old (sz HO325.out) hb) (Kd.R_base ho0)) (Kd.S_base ho1)) (fun _ h_ => h_.1))
    replace HL328_2 := am (Kd.R_elder' (rz HL328_2.out) (Kd.R_base ho0) hb)
    replace HO332 := am (Kd.R_elder' (rz HO332.out) (Kd.R_base ho0) hb)
    replace HO335 := am (Kd.S_mono (Kd.S_told (Kd.S_told (Kd.S_old (sz HO335.out) hb) (Kd.R_base ho0)) (Kd.S_base ho1)) (fun _ h_ => h_.1))
    replace HL338_2 := am (Kd.R_elder' (rz HL338_2.out) (Kd.R_base ho0) hb)
    replace BK315 := am (blk_below (bz BK315.out) hb)
    replace BK327 := am (blk_below (bz BK327.out) hb)
    replace BK337 := am (blk_below (bz BK337.out) hb)
    replace HR338_2 := am (Kd.C_below (cz HR338_2.out) hb)
    replace HB := am (below_step (hz3 HB.out GE315.out GE327.out GE337.out) hb)
    (try clear hb)
    (try clear hb2)
    (try clear hk)
    (try clear hi)
    (try clear ho0)
    (try clear ho1)
    refine hK.out _ _ ⟨(blk_cell BK337.out 0).trans rfl, (blk_cell BK337.out 1).trans rfl, (blk_cell BK337.out 2).trans rfl, HS3_, HS4_, HS5_, HS6_⟩ (fun hHeld => ?_)
    clear hK K
    refine norm_ (a' := ?_) ?_ ?_
    rotate_left
    ·
     show Act.put _ (some 71) _ = _
     simp only [Act.put, List.setIfInBounds_toArray, List.set_cons_zero, List.set_cons_succ, i64_w, i32_w]
     rfl
    refine pz 5 66 HT_.out ?_
    refine pz 6 72 HT_.out ?_
    refine pz 7 73 HT_.out ?_
    refine oz 8 10 HT_.out (fun K hK => ?_)
    refine box_step ?hg (N := 10) ?hd (cs := #[.int .i64 0, .slice none 0 0, .slice none 0 0]) (t := 34) ?hr ?_; (case hd => rfl); (case hg => rfl); (case hr => exact gz)
    intro gb347 hg w60 hbox hb
    have HS3_ := (hb.cell (World.block_lt_of_cell? _ _ (hHeld.2.2.2.1))).trans (hHeld.2.2.2.1)
    have HS4_ := (hb.cell (World.block_lt_of_cell? _ _ (hHeld.2.2.2.2.1))).trans (hHeld.2.2.2.2.1)
    have HS5_ := (hb.cell (World.block_lt_of_cell? _ _ (hHeld.2.2.2.2.2.1))).trans (hHeld.2.2.2.2.2.1)
    have HS6_ := (hb.cell (World.block_lt_of_cell? _ _ (hHeld.2.2.2.2.2.2))).trans (hHeld.2.2.2.2.2.2)
    replace HO302 := am (Kd.R_below (rz HO302.out) hb)
    replace HO306 := am (Kd.S_below (sz HO306.out) hb)
    replace HO310 := am (Kd.R_below (rz HO310.out) hb)
    replace HO313 := am (Kd.S_below (sz HO313.out) hb)
    replace HL316_2 := am (Kd.R_below (rz HL316_2.out) hb)
    replace HL317_2 := am (Kd.R_below (rz HL317_2.out) hb)
    replace HL318_2 := am (Kd.R_below (rz HL318_2.out) hb)
    replace HO322 := am (Kd.R_below (rz HO322.out) hb)
    replace HO325 := am (Kd.S_below (sz HO325.out) hb)
    replace HL328_2 := am (Kd.R_below (rz HL328_2.out) hb)
    replace HO332 := am (Kd.R_below (rz HO332.out) hb)
    replace HO335 := am (Kd.S_below (sz HO335.out) hb)
    replace HL338_2 := am (Kd.R_below (rz HL338_2.out) hb)
    replace HO342 := am (Kd.R_below (rz HO342.out) hb)
    replace HO345 := am (Kd.S_below (sz HO345.out) hb)
    replace HR338_2 := am (Kd.C_below (cz HR338_2.out) hb)
    have BK347 := am (hbox)
    have GW347 := am ((bs hg (hz3 HB.out GE315.out GE327.out GE337.out) : w.heap.size ≤ gb347))
    have GE347 := am ((bs hg (hz3 HB.out GE315.out GE327.out GE337.out) : w.heap.size ≤ gb347))
    replace HB := am (below_step (hz3 HB.out GE315.out GE327.out GE337.out) hb)
    have NB315_347 := am ((nl hg (bz BK315.out) : gb315 ≠ gb347))
    have NB347_315 := am ((ng hg (bz BK315.out) : gb347 ≠ gb315))
    replace BK315 := am (blk_below (bz BK315.out) hb)
    have NB327_347 := am ((nl hg (bz BK327.out) : gb327 ≠ gb347))
    have NB347_327 := am ((ng hg (bz BK327.out) : gb347 ≠ gb327))
    replace BK327 := am (blk_below (bz BK327.out) hb)
    have NB337_347 := am ((nl hg (bz BK337.out) : gb337 ≠ gb347))
    have NB347_337 := am ((ng hg (bz BK337.out) : gb347 ≠ gb337))
    replace BK337 := am (blk_below (bz BK337.out) hb)
    clear hb hbox hg
    refine hK.out _ _ ⟨(blk_cell BK337.out 0).trans rfl, (blk_cell BK337.out 1).trans rfl, (blk_cell BK337.out 2).trans rfl, HS3_, HS4_, HS5_, HS6_⟩ (fun hHeld => ?_)
    clear hK K
    refine norm_ (a' := ?_) ?_ ?_
    rotate_left
    ·
     show Act.put _ (some 10) _ = _
     simp only [Act.put, List.setIfInBounds_toArray, List.set_cons_zero, List.set_cons_succ, i64_w, i32_w]
     rfl
    exact norm_ (by simp only [putAll, Act.put, List.setIfInBounds_toArray, List.set_cons_zero, List.set_cons_succ]) (hCont (v341, v344, gb347) _ ⟨hHeld, (rz (Kd.R_mono HL316_2.out (fun _ hk => ⟨hk.1.1, ⟨hk.1.2.1, ⟨hk.1.2.2.1, ⟨hk.1.2.2.2.1, ⟨hk.1.2.2.2.2.1, ⟨hk.1.2.2.2.2.2, hk.2⟩⟩⟩⟩⟩⟩))), (rz (Kd.R_mono HL317_2.out (fun _ hk => ⟨hk.1.1, ⟨hk.1.2.1, ⟨hk.1.2.2.1, ⟨hk.1.2.2.2.1, ⟨hk.1.2.2.2.2.1, ⟨hk.1.2.2.2.2.2, hk.2⟩⟩⟩⟩⟩⟩))), (rz (Kd.R_mono HL318_2.out (fun _ hk => ⟨hk.1.1, ⟨hk.1.2.1, ⟨hk.1.2.2.1, ⟨hk.1.2.2.2.1, ⟨hk.1.2.2.2.2.1, ⟨hk.1.2.2.2.2.2, hk.2⟩⟩⟩⟩⟩⟩))), (rz (Kd.R_mono HL328_2.out (fun _ hk => ⟨hk.1.1, ⟨hk.1.2.1, ⟨hk.1.2.2.1, ⟨hk.1.2.2.2.1, ⟨hk.1.2.2.2.2.1, ⟨hk.1.2.2.2.2.2.1, ⟨hk.1.2.2.2.2.2.2, hk.2⟩⟩⟩⟩⟩⟩⟩))), (rz (Kd.R_mono HL338_2.out (fun _ hk => ⟨hk.1.1.1, ⟨hk.1.2, ⟨hk.1.1.2.1, ⟨hk.1.1.2.2.1, ⟨hk.1.1.2.2.2.1, ⟨hk.1.1.2.2.2.2.1, ⟨hk.1.1.2.2.2.2.2.1, ⟨hk.1.1.2.2.2.2.2.2, hk.2⟩⟩⟩⟩⟩⟩⟩⟩))), (rz (Kd.R_mono HO302.out (fun _ hk => ⟨hk.1.1, ⟨hk.1.2.1, ⟨hk.1.2.2, hk.2⟩⟩⟩))), (sz (Kd.S_mono HO306.out (fun _ hk => ⟨hk.1.1.1, ⟨hk.1.1.2.1, ⟨hk.1.1.2.2.1, ⟨hk.1.1.2.2.2.1, ⟨hk.1.1.2.2.2.2.1, ⟨hk.1.1.2.2.2.2.2.1, ⟨hk.1.1.2.2.2.2.2.2, ⟨hk.1.2, hk.2⟩⟩⟩⟩⟩⟩⟩⟩))), (rz (Kd.R_mono HO310.out (fun _ hk => ⟨hk.1.1, ⟨hk.1.2.1, ⟨hk.1.2.2, hk.2⟩⟩⟩))), (sz (Kd.S_mono HO313.out (fun _ hk => ⟨hk.1.1.1, ⟨hk.1.1.2.1, ⟨hk.1.1.2.2.1, ⟨hk.1.1.2.2.2.1, ⟨hk.1.1.2.2.2.2.1, ⟨hk.1.1.2.2.2.2.2.1, ⟨hk.1.1.2.2.2.2.2.2, ⟨hk.1.2, hk.2⟩⟩⟩⟩⟩⟩⟩⟩))), (rz (Kd.R_mono HO322.out (fun _ hk => ⟨hk.1.2.2.1, ⟨hk.1.2.2.2.1, ⟨hk.1.2.2.2.2.1, ⟨hk.1.1, ⟨hk.1.2.1, ⟨hk.1.2.2.2.2.2, hk.2⟩⟩⟩⟩⟩⟩))), (sz (Kd.S_mono HO325.out (fun _ hk => ⟨hk.1.1.2.2.2.2.1, ⟨hk.1.1.2.2.2.2.2.1, ⟨hk.1.1.2.2.2.2.2.2.1, ⟨hk.1.1.1, ⟨hk.1.1.2.1, ⟨hk.1.1.2.2.1, ⟨hk.1.1.2.2.2.1, ⟨hk.1.1.2.2.2.2.2.2.2.1, ⟨hk.1.1.2.2.2.2.2.2.2.2.1, ⟨hk.1.1.2.2.2.2.2.2.2.2.2, ⟨hk.1.2, hk.2⟩⟩⟩⟩⟩⟩⟩⟩⟩⟩⟩))), (rz (Kd.R_mono HO332.out (fun _ hk => ⟨hk.1.2.2.1, ⟨hk.1.2.2.2.1, ⟨hk.1.2.2.2.2.1, ⟨hk.1.2.2.2.2.2.2, ⟨hk.1.1, ⟨hk.1.2.1, ⟨hk.1.2.2.2.2.2.1, hk.2⟩⟩⟩⟩⟩⟩⟩))), (sz (Kd.S_mono HO335.out (fun _ hk => ⟨hk.1.1.2.2.2.2.1, ⟨hk.1.1.2.2.2.2.2.1, ⟨hk.1.1.2.2.2.2.2.2.1, ⟨hk.1.1.2.2.2.2.2.2.2.2.2.1, ⟨hk.1.1.1, ⟨hk.1.1.2.1, ⟨hk.1.1.2.2.1, ⟨hk.1.1.2.2.2.1, ⟨hk.1.1.2.2.2.2.2.2.2.1, ⟨hk.1.1.2.2.2.2.2.2.2.2.1, ⟨hk.1.1.2.2.2.2.2.2.2.2.2.2, ⟨hk.1.2, hk.2⟩⟩⟩⟩⟩⟩⟩⟩⟩⟩⟩⟩))), (rz (Kd.R_mono HO342.out (fun _ hk => ⟨hk.1.1.1.1.1.1.2, ⟨hk.1.1.1.1.1.2, ⟨hk.1.1.1.1.2, ⟨hk.1.1.2, ⟨hk.2, ⟨hk.1.1.1.1.1.1.1.1.2, ⟨hk.1.1.1.1.1.1.1.2, ⟨hk.1.1.1.2, hk.1.2⟩⟩⟩⟩⟩⟩⟩⟩))), (sz (Kd.S_mono HO345.out (fun _ hk => ⟨hk.1.1.1.1.1.1.1.1.2, ⟨hk.1.1.1.1.1.1.1.2, ⟨hk.1.1.1.1.1.1.2, ⟨hk.1.1.1.2, ⟨hk.2, ⟨hk.1.1.1.1.1.1.1.1.1.1.1.1.2, ⟨hk.1.1.1.1.1.1.1.1.1.1.1.2, ⟨hk.1.1.1.1.1.1.1.1.1.1.2, ⟨hk.1.1.1.1.1.1.1.1.1.2, ⟨hk.1.1.1.1.1.2, ⟨hk.1.1.1.1.2, ⟨hk.1.1.2, ⟨hk.1.2, hk.1.1.1.1.1.1.1.1.1.1.1.1.1⟩⟩⟩⟩⟩⟩⟩⟩⟩⟩⟩⟩⟩))), (bz BK315.out), (bz BK327.out), (bz BK337.out), (bz BK347.out), GW347.out, GE347.out, NB315_347.out, NB347_315.out, NB327_347.out, NB347_327.out, NB337_347.out, NB347_337.out, (hz4 HB.out GE315.out GE327.out GE337.out GE347.out)⟩)
   ·
    skip
    refine box_step ?hg (N := 10) ?hd (cs := #[.int .i64 0, .slice none 0 0, .slice none 0 0]) (t := 34) ?hr ?_; (case hd => rfl); (case hg => rfl); (case hr => exact gz)
    intro gb347 hg w59 hbox hb
    have HS3_ := (hb.cell (World.block_lt_of_cell? _ _ (hHeld.2.2.2.1))).trans (hHeld.2.2.2.1)
    have HS4_ := (hb.cell (World.block_lt_of_cell? _ _ (hHeld.2.2.2.2.1))).trans (hHeld.2.2.2.2.1)
    have HS5_ := (hb.cell (World.block_lt_of_cell? _ _ (hHeld.2.2.2.2.2.1))).trans (hHeld.2.2.2.2.2.1)
    have HS6_ := (hb.cell (World.block_lt_of_cell? _ _ (hHeld.2.2.2.2.2.2))).trans (hHeld.2.2.2.2.2.2)
    replace HO302 := am (Kd.R_below (rz HO302.out) hb)
    replace HO306 := am (Kd.S_below (sz HO306.out) hb)
    replace HO310 := am (Kd.R_below (rz HO310.out) hb)
    replace HO313 := am (Kd.S_below (sz HO313.out) hb)
    replace HL316_2 := am (Kd.R_below (rz HL316_2.out) hb)
    replace HL317_2 := am (Kd.R_below (rz HL317_2.out) hb)
    replace HL318_2 := am (Kd.R_below (rz HL318_2.out) hb)
    replace HO322 := am (Kd.R_below (rz HO322.out) hb)
    replace HO325 := am (Kd.S_below (sz HO325.out) hb)
    replace HL328_2 := am (Kd.R_below (rz HL328_2.out) hb)
    replace HO332 := am (Kd.R_below (rz HO332.out) hb)
    replace HO335 := am (Kd.S_below (sz HO335.out) hb)
    replace HL338_2 := am (Kd.R_below (rz HL338_2.out) hb)
    replace HR338_2 := am (Kd.C_below (cz HR338_2.out) hb)
    have BK347 := am (hbox)
    have GW347 := am ((bs hg (hz3 HB.out GE315.out GE327.out GE337.out) : w.heap.size ≤ gb347))
    have GE347 := am ((bs hg (hz3 HB.out GE315.out GE327.out GE337.out) : w.heap.size ≤ gb347))
    replace HB := am (below_step (hz3 HB.out GE315.out GE327.out GE337.out) hb)
    have NB315_347 := am ((nl hg (bz BK315.out) : gb315 ≠ gb347))
    have NB347_315 := am ((ng hg (bz BK315.out) : gb347 ≠ gb315))
    replace BK315 := am (blk_below (bz BK315.out) hb)
    have NB327_347 := am ((nl hg (bz BK327.out) : gb327 ≠ gb347))
    have NB347_327 := am ((ng hg (bz BK327.out) : gb347 ≠ gb327))
    replace BK327 := am (blk_below (bz BK327.out) hb)
    have NB337_347 := am ((nl hg (bz BK337.out) : gb337 ≠ gb347))
    have NB347_337 := am ((ng hg (bz BK337.out) : gb347 ≠ gb337))
    replace BK337 := am (blk_below (bz BK337.out) hb)
    clear hb hbox hg
    refine hK.out _ _ ⟨(blk_cell BK337.out 0).trans rfl, (blk_cell BK337.out 1).trans rfl, (blk_cell BK337.out 2).trans rfl, HS3_, HS4_, HS5_, HS6_⟩ (fun hHeld => ?_)
    clear hK K
    refine norm_ (a' := ?_) ?_ ?_
    rotate_left
    ·
     show Act.put _ (some 10) _ = _
     simp only [Act.put, List.setIfInBounds_toArray, List.set_cons_zero, List.set_cons_succ, i64_w, i32_w]
     rfl
    refine oz 4 71 HT_.out (fun K hK => ?_)
    refine goes_ Try.func20 (by kernel_rfl) rfl #[.agg #[.int .i64 t329, .slice Ao53 t330.length co53, .slice Ao55 t333.length co55], .agg #[.int .i64 ((rd_T25 t303 1).f0), .int .i64 ((rd_T25 t303 1).f1), .slice A338_2 ((rd_T25 t303 1).f2).length c338_2, .int .u64 ((rd_T25 t303 1).f3)]] (by rfl) rfl rfl lz ?_
    with_reducible refine (upload_Receive.calls k t329 _ _ t330 _ _ t333 ((rd_T25 t303 1).f0) ((rd_T25 t303 1).f1) _ _ ((rd_T25 t303 1).f2) ((rd_T25 t303 1).f3) t339 t340 t343 t346 _ ?side1 ?side2 ?side3 ?side4 ?side5 ?side6 A13.out).mono ?_
    (case side1 => repeat (first | exact (Kd.R_reads' HO332.out).2.2 | (with_reducible refine Kd.C_alloc ?_ _) | (with_reducible refine Kd.C_drewN ?_ _) | (with_reducible refine Kd.C_drew ?_)))
    (case side2 => exact (Kd.R_reads' HO332.out).2.1)
    (case side3 => repeat (first | exact (Kd.S_reads' HO335.out).2.2 | (with_reducible refine Kd.C_alloc ?_ _) | (with_reducible refine Kd.C_drewN ?_ _) | (with_reducible refine Kd.C_drew ?_)))
    (case side4 => exact (Kd.S_reads' HO335.out).2.1)
    (case side5 => repeat (first | exact (cz HR338_2.out) | (with_reducible refine Kd.C_alloc ?_ _) | (with_reducible refine Kd.C_drewN ?_ _) | (with_reducible refine Kd.C_drew ?_)))
    (case side6 => exact HC338_2.out)
    rintro e w60 ⟨v341, v344, rfl, ho0, ho1, hb⟩
    have HS3_ := (hb.cell (World.block_lt_of_cell? _ _ (hHeld.2.2.2.1))).trans (hHeld.2.2.2.1)
    have HS4_ := (hb.cell (World.block_lt_of_cell? _ _ (hHeld.2.2.2.2.1))).trans (hHeld.2.2.2.2.1)
    have HS5_ := (hb.cell (World.block_lt_of_cell? _ _ (hHeld.2.2.2.2.2.1))).trans (hHeld.2.2.2.2.2.1)
    have HS6_ := (hb.cell (World.block_lt_of_cell? _ _ (hHeld.2.2.2.2.2.2))).trans (hHeld.2.2.2.2.2.2)
    refine ⟨_, rfl, ?_⟩
    have HO342 := am (Kd.R_lower (Kd.R_new' (Kd.R_new' (Kd.R_new' (Kd.R_new' (Kd.R_new' (Kd.R_new' (Kd.R_new' (Kd.R_new' (Kd.R_new' ho0 (Kd.R_lt (rz HO302.out))) (Kd.R_lt (rz HO310.out))) (Kd.R_lt (rz HL316_2.out))) (Kd.R_lt (rz HL317_2.out))) (Kd.R_lt (rz HL318_2.out))) (Kd.R_lt (rz HO322.out))) (Kd.R_lt (rz HL328_2.out))) (Kd.R_lt (rz HO332.out))) (Kd.R_lt (rz HL338_2.out))) (below_size (hz4 HB.out GE315.out GE327.out GE337.out GE347.out)))
    have HO345 := am (Kd.S_lower (Kd.S_new' (Kd.S_new' (Kd.S_new' (Kd.S_new' (Kd.S_new' (Kd.S_new' (Kd.S_new' (Kd.S_new' (Kd.S_new' (Kd.S_new' (Kd.S_new' (Kd.S_new' (Kd.S_new' ho1 (Kd.R_lt (rz HO302.out))) (Kd.S_lt (sz HO306.out))) (Kd.R_lt (rz HO310.out))) (Kd.S_lt (sz HO313.out))) (Kd.R_lt (rz HL316_2.out))) (Kd.R_lt (rz HL317_2.out))) (Kd.R_lt (rz HL318_2.out))) (Kd.R_lt (rz HO322.out))) (Kd.S_lt (sz HO325.out))) (Kd.R_lt (rz HL328_2.out))) (Kd.R_lt (rz HO332.out))) (Kd.S_lt (sz HO335.out))) (Kd.R_lt (rz HL338_2.out))) (below_size (hz4 HB.out GE315.out GE327.out GE337.out GE347.out)))
    replace HO302 := am (Kd.R_elder' (rz HO302.out) (Kd.R_base ho0) hb)
    replace HO306 := am (Kd.S_mono (Kd.S_told (Kd.S_told (Kd.S_old (sz HO306.out) hb) (Kd.R_base ho0)) (Kd.S_base ho1)) (fun _ h_ => h_.1))
    replace HO310 := am (Kd.R_elder' (rz HO310.out) (Kd.R_base ho0) hb)
    replace HO313 := am (Kd.S_mono (Kd.S_told (Kd.S_told (Kd.S_old (sz HO313.out) hb) (Kd.R_base ho0)) (Kd.S_base ho1)) (fun _ h_ => h_.1))
    replace HL316_2 := am (Kd.R_elder' (rz HL316_2.out) (Kd.R_base ho0) hb)
    replace HL317_2 := am (Kd.R_elder' (rz HL317_2.out) (Kd.R_base ho0) hb)
    replace HL318_2 := am (Kd.R_elder' (rz HL318_2.out) (Kd.R_base ho0) hb)
    replace HO322 := am (Kd.R_elder' (rz HO322.out) (Kd.R_base ho0) hb)
    replace HO325 := am (Kd.S_mono (Kd.S_told (Kd.S_told (Kd.S_old (sz HO325.out) hb) (Kd.R_base ho0)) (Kd.S_base ho1)) (fun _ h_ => h_.1))
    replace HL328_2 := am (Kd.R_elder' (rz HL328_2.out) (Kd.R_base ho0) hb)
    replace HO332 := am (Kd.R_elder' (rz HO332.out) (Kd.R_base ho0) hb)
    replace HO335 := am (Kd.S_mono (Kd.S_told (Kd.S_told (Kd.S_old (sz HO335.out) hb) (Kd.R_base ho0)) (Kd.S_base ho1)) (fun _ h_ => h_.1))
    replace HL338_2 := am (Kd.R_elder' (rz HL338_2.out) (Kd.R_base ho0) hb)
    replace BK315 := am (blk_below (bz BK315.out) hb)
    replace BK327 := am (blk_below (bz BK327.out) hb)
    replace BK337 := am (blk_below (bz BK337.out) hb)
    replace HR338_2 := am (Kd.C_below (cz HR338_2.out) hb)
    replace BK347 := am (blk_below (bz BK347.out) hb)
    replace HB := am (below_step (hz4 HB.out GE315.out GE327.out GE337.out GE347.out) hb)
    (try clear hb)
    (try clear hb2)
    (try clear hk)
    (try clear hi)
    (try clear ho0)
    (try clear ho1)
    refine hK.out _ _ ⟨(blk_cell BK337.out 0).trans rfl, (blk_cell BK337.out 1).trans rfl, (blk_cell BK337.out 2).trans rfl, HS3_, HS4_, HS5_, HS6_⟩ (fun hHeld => ?_)
    clear hK K
    refine norm_ (a' := ?_) ?_ ?_
    rotate_left
    ·
     show Act.put _ (some 71) _ = _
     simp only [Act.put, List.setIfInBounds_toArray, List.set_cons_zero, List.set_cons_succ, i64_w, i32_w]
     rfl
    refine pz 5 66 HT_.out ?_
    refine pz 6 72 HT_.out ?_
    refine pz 7 73 HT_.out ?_
    exact norm_ (by simp only [putAll, Act.put, List.setIfInBounds_toArray, List.set_cons_zero, List.set_cons_succ]) (hCont (v341, v344, gb347) _ ⟨hHeld, (rz (Kd.R_mono HL316_2.out (fun _ hk => ⟨hk.1.1, ⟨hk.1.2.1, ⟨hk.1.2.2.1, ⟨hk.1.2.2.2.1, ⟨hk.1.2.2.2.2.1, ⟨hk.1.2.2.2.2.2, hk.2⟩⟩⟩⟩⟩⟩))), (rz (Kd.R_mono HL317_2.out (fun _ hk => ⟨hk.1.1, ⟨hk.1.2.1, ⟨hk.1.2.2.1, ⟨hk.1.2.2.2.1, ⟨hk.1.2.2.2.2.1, ⟨hk.1.2.2.2.2.2, hk.2⟩⟩⟩⟩⟩⟩))), (rz (Kd.R_mono HL318_2.out (fun _ hk => ⟨hk.1.1, ⟨hk.1.2.1, ⟨hk.1.2.2.1, ⟨hk.1.2.2.2.1, ⟨hk.1.2.2.2.2.1, ⟨hk.1.2.2.2.2.2, hk.2⟩⟩⟩⟩⟩⟩))), (rz (Kd.R_mono HL328_2.out (fun _ hk => ⟨hk.1.1, ⟨hk.1.2.1, ⟨hk.1.2.2.1, ⟨hk.1.2.2.2.1, ⟨hk.1.2.2.2.2.1, ⟨hk.1.2.2.2.2.2.1, ⟨hk.1.2.2.2.2.2.2, hk.2⟩⟩⟩⟩⟩⟩⟩))), (rz (Kd.R_mono HL338_2.out (fun _ hk => ⟨hk.1.1.1, ⟨hk.1.2, ⟨hk.1.1.2.1, ⟨hk.1.1.2.2.1, ⟨hk.1.1.2.2.2.1, ⟨hk.1.1.2.2.2.2.1, ⟨hk.1.1.2.2.2.2.2.1, ⟨hk.1.1.2.2.2.2.2.2, hk.2⟩⟩⟩⟩⟩⟩⟩⟩))), (rz (Kd.R_mono HO302.out (fun _ hk => ⟨hk.1.1, ⟨hk.1.2.1, ⟨hk.1.2.2, hk.2⟩⟩⟩))), (sz (Kd.S_mono HO306.out (fun _ hk => ⟨hk.1.1.1, ⟨hk.1.1.2.1, ⟨hk.1.1.2.2.1, ⟨hk.1.1.2.2.2.1, ⟨hk.1.1.2.2.2.2.1, ⟨hk.1.1.2.2.2.2.2.1, ⟨hk.1.1.2.2.2.2.2.2, ⟨hk.1.2, hk.2⟩⟩⟩⟩⟩⟩⟩⟩))), (rz (Kd.R_mono HO310.out (fun _ hk => ⟨hk.1.1, ⟨hk.1.2.1, ⟨hk.1.2.2, hk.2⟩⟩⟩))), (sz (Kd.S_mono HO313.out (fun _ hk => ⟨hk.1.1.1, ⟨hk.1.1.2.1, ⟨hk.1.1.2.2.1, ⟨hk.1.1.2.2.2.1, ⟨hk.1.1.2.2.2.2.1, ⟨hk.1.1.2.2.2.2.2.1, ⟨hk.1.1.2.2.2.2.2.2, ⟨hk.1.2, hk.2⟩⟩⟩⟩⟩⟩⟩⟩))), (rz (Kd.R_mono HO322.out (fun _ hk => ⟨hk.1.2.2.1, ⟨hk.1.2.2.2.1, ⟨hk.1.2.2.2.2.1, ⟨hk.1.1, ⟨hk.1.2.1, ⟨hk.1.2.2.2.2.2, hk.2⟩⟩⟩⟩⟩⟩))), (sz (Kd.S_mono HO325.out (fun _ hk => ⟨hk.1.1.2.2.2.2.1, ⟨hk.1.1.2.2.2.2.2.1, ⟨hk.1.1.2.2.2.2.2.2.1, ⟨hk.1.1.1, ⟨hk.1.1.2.1, ⟨hk.1.1.2.2.1, ⟨hk.1.1.2.2.2.1, ⟨hk.1.1.2.2.2.2.2.2.2.1, ⟨hk.1.1.2.2.2.2.2.2.2.2.1, ⟨hk.1.1.2.2.2.2.2.2.2.2.2, ⟨hk.1.2, hk.2⟩⟩⟩⟩⟩⟩⟩⟩⟩⟩⟩))), (rz (Kd.R_mono HO332.out (fun _ hk => ⟨hk.1.2.2.1, ⟨hk.1.2.2.2.1, ⟨hk.1.2.2.2.2.1, ⟨hk.1.2.2.2.2.2.2, ⟨hk.1.1, ⟨hk.1.2.1, ⟨hk.1.2.2.2.2.2.1, hk.2⟩⟩⟩⟩⟩⟩⟩))), (sz (Kd.S_mono HO335.out (fun _ hk => ⟨hk.1.1.2.2.2.2.1, ⟨hk.1.1.2.2.2.2.2.1, ⟨hk.1.1.2.2.2.2.2.2.1, ⟨hk.1.1.2.2.2.2.2.2.2.2.2.1, ⟨hk.1.1.1, ⟨hk.1.1.2.1, ⟨hk.1.1.2.2.1, ⟨hk.1.1.2.2.2.1, ⟨hk.1.1.2.2.2.2.2.2.2.1, ⟨hk.1.1.2.2.2.2.2.2.2.2.1, ⟨hk.1.1.2.2.2.2.2.2.2.2.2.2, ⟨hk.1.2, hk.2⟩⟩⟩⟩⟩⟩⟩⟩⟩⟩⟩⟩))), (rz (Kd.R_mono HO342.out (fun _ hk => ⟨hk.1.1.1.1.1.1.2, ⟨hk.1.1.1.1.1.2, ⟨hk.1.1.1.1.2, ⟨hk.1.1.2, ⟨hk.2, ⟨hk.1.1.1.1.1.1.1.1.2, ⟨hk.1.1.1.1.1.1.1.2, ⟨hk.1.1.1.2, hk.1.2⟩⟩⟩⟩⟩⟩⟩⟩))), (sz (Kd.S_mono HO345.out (fun _ hk => ⟨hk.1.1.1.1.1.1.1.1.2, ⟨hk.1.1.1.1.1.1.1.2, ⟨hk.1.1.1.1.1.1.2, ⟨hk.1.1.1.2, ⟨hk.2, ⟨hk.1.1.1.1.1.1.1.1.1.1.1.1.2, ⟨hk.1.1.1.1.1.1.1.1.1.1.1.2, ⟨hk.1.1.1.1.1.1.1.1.1.1.2, ⟨hk.1.1.1.1.1.1.1.1.1.2, ⟨hk.1.1.1.1.1.2, ⟨hk.1.1.1.1.2, ⟨hk.1.1.2, ⟨hk.1.2, hk.1.1.1.1.1.1.1.1.1.1.1.1.1⟩⟩⟩⟩⟩⟩⟩⟩⟩⟩⟩⟩⟩))), (bz BK315.out), (bz BK327.out), (bz BK337.out), (bz BK347.out), GW347.out, GE347.out, NB315_347.out, NB347_315.out, NB327_347.out, NB347_327.out, NB337_347.out, NB347_337.out, (hz4 HB.out GE315.out GE327.out GE337.out GE347.out)⟩)
  rintro ⟨v341, v344, gb347⟩ w61 ⟨hS_, h0_, h1_, h2_, h3_, h4_, h5_, h6_, h7_, h8_, h9_, h10_, h11_, h12_, h13_, h14_, h15_, h16_, h17_, h18_, h19_, h20_, h21_, h22_, h23_, h24_, h25_, h26_, h27_⟩
  have n0_ : Aside0 (Kd.R (Kd.int .u8) 5 w61 w.heap.size (fun k_ => some k_ ≠ (.slice Ao29 y300.length co29 : Value).ownBlock ∧ some k_ ≠ (.slice (some ad316) t303.length co37 : Value).ownBlock ∧ some k_ ≠ (.slice Ao34 t308.length co34 : Value).ownBlock ∧ some k_ ≠ (.slice Ao35 t311.length co35 : Value).ownBlock ∧ some k_ ≠ (.slice Ao43 t320.length co43 : Value).ownBlock ∧ some k_ ≠ (.slice Ao53 t330.length co53 : Value).ownBlock ∧ some k_ ≠ (v341 : Value).ownBlock) (.slice A316_2 ((rd_T25 t303 2).f2).length c316_2) ((rd_T25 t303 2).f2)) := ⟨h0_⟩
  have n1_ : Aside0 (Kd.R (Kd.int .u8) 5 w61 w.heap.size (fun k_ => some k_ ≠ (.slice Ao29 y300.length co29 : Value).ownBlock ∧ some k_ ≠ (.slice (some ad316) t303.length co37 : Value).ownBlock ∧ some k_ ≠ (.slice Ao34 t308.length co34 : Value).ownBlock ∧ some k_ ≠ (.slice Ao35 t311.length co35 : Value).ownBlock ∧ some k_ ≠ (.slice Ao43 t320.length co43 : Value).ownBlock ∧ some k_ ≠ (.slice Ao53 t330.length co53 : Value).ownBlock ∧ some k_ ≠ (v341 : Value).ownBlock) (.slice A316_2 ((rd_T25 t303 2).f2).length c316_2) ((rd_T25 t303 2).f2)) := ⟨h1_⟩
  have n2_ : Aside0 (Kd.R (Kd.int .u8) 5 w61 w.heap.size (fun k_ => some k_ ≠ (.slice Ao29 y300.length co29 : Value).ownBlock ∧ some k_ ≠ (.slice (some ad316) t303.length co37 : Value).ownBlock ∧ some k_ ≠ (.slice Ao34 t308.length co34 : Value).ownBlock ∧ some k_ ≠ (.slice Ao35 t311.length co35 : Value).ownBlock ∧ some k_ ≠ (.slice Ao43 t320.length co43 : Value).ownBlock ∧ some k_ ≠ (.slice Ao53 t330.length co53 : Value).ownBlock ∧ some k_ ≠ (v341 : Value).ownBlock) (.slice A318_2 ((rd_T25 t303 2).f2).length c318_2) ((rd_T25 t303 2).f2)) := ⟨h2_⟩
  have n3_ : Aside0 (Kd.R (Kd.int .u8) 5 w61 w.heap.size (fun k_ => some k_ ≠ (.slice Ao29 y300.length co29 : Value).ownBlock ∧ some k_ ≠ (.slice (some ad316) t303.length co37 : Value).ownBlock ∧ some k_ ≠ (.slice Ao34 t308.length co34 : Value).ownBlock ∧ some k_ ≠ (.slice Ao35 t311.length co35 : Value).ownBlock ∧ some k_ ≠ (.slice Ao43 t320.length co43 : Value).ownBlock ∧ some k_ ≠ (.slice Ao45 t323.length co45 : Value).ownBlock ∧ some k_ ≠ (.slice Ao53 t330.length co53 : Value).ownBlock ∧ some k_ ≠ (v341 : Value).ownBlock) (.slice A328_2 ((rd_T25 t303 0).f2).length c328_2) ((rd_T25 t303 0).f2)) := ⟨h3_⟩
  have n4_ : Aside0 (Kd.R (Kd.int .u8) 5 w61 w.heap.size (fun k_ => some k_ ≠ (.slice Ao29 y300.length co29 : Value).ownBlock ∧ some k_ ≠ (.slice (some ad316) t303.length co37 : Value).ownBlock ∧ some k_ ≠ (.slice Ao34 t308.length co34 : Value).ownBlock ∧ some k_ ≠ (.slice Ao35 t311.length co35 : Value).ownBlock ∧ some k_ ≠ (.slice Ao43 t320.length co43 : Value).ownBlock ∧ some k_ ≠ (.slice Ao45 t323.length co45 : Value).ownBlock ∧ some k_ ≠ (.slice Ao53 t330.length co53 : Value).ownBlock ∧ some k_ ≠ (.slice Ao55 t333.length co55 : Value).ownBlock ∧ some k_ ≠ (v341 : Value).ownBlock) (.slice A338_2 ((rd_T25 t303 1).f2).length c338_2) ((rd_T25 t303 1).f2)) := ⟨h4_⟩
  have n5_ : Aside0 (Kd.R (Kd.int .u8) 5 w61 w.heap.size (fun k_ => some k_ ≠ (.slice Ao34 t308.length co34 : Value).ownBlock ∧ some k_ ≠ (.slice Ao43 t320.length co43 : Value).ownBlock ∧ some k_ ≠ (.slice Ao53 t330.length co53 : Value).ownBlock ∧ some k_ ≠ (v341 : Value).ownBlock) (.slice Ao29 y300.length co29) y300) := ⟨h5_⟩
  have n6_ : Aside0 (Kd.S k25 25 w61 w.heap.size (fun k_ => some k_ ≠ (.slice Ao29 y300.length co29 : Value).ownBlock ∧ some k_ ≠ (.slice Ao34 t308.length co34 : Value).ownBlock ∧ some k_ ≠ (.slice Ao35 t311.length co35 : Value).ownBlock ∧ some k_ ≠ (.slice Ao43 t320.length co43 : Value).ownBlock ∧ some k_ ≠ (.slice Ao45 t323.length co45 : Value).ownBlock ∧ some k_ ≠ (.slice Ao53 t330.length co53 : Value).ownBlock ∧ some k_ ≠ (.slice Ao55 t333.length co55 : Value).ownBlock ∧ some k_ ≠ (v341 : Value).ownBlock ∧ some k_ ≠ (v344 : Value).ownBlock) (.slice (some ad316) t303.length co37) t303) := ⟨h6_⟩
  have n7_ : Aside0 (Kd.R (Kd.int .u8) 5 w61 w.heap.size (fun k_ => some k_ ≠ (.slice Ao29 y300.length co29 : Value).ownBlock ∧ some k_ ≠ (.slice Ao43 t320.length co43 : Value).ownBlock ∧ some k_ ≠ (.slice Ao53 t330.length co53 : Value).ownBlock ∧ some k_ ≠ (v341 : Value).ownBlock) (.slice Ao34 t308.length co34) t308) := ⟨h7_⟩
  have n8_ : Aside0 (Kd.S k25 25 w61 w.heap.size (fun k_ => some k_ ≠ (.slice Ao29 y300.length co29 : Value).ownBlock ∧ some k_ ≠ (.slice (some ad316) t303.length co37 : Value).ownBlock ∧ some k_ ≠ (.slice Ao34 t308.length co34 : Value).ownBlock ∧ some k_ ≠ (.slice Ao43 t320.length co43 : Value).ownBlock ∧ some k_ ≠ (.slice Ao45 t323.length co45 : Value).ownBlock ∧ some k_ ≠ (.slice Ao53 t330.length co53 : Value).ownBlock ∧ some k_ ≠ (.slice Ao55 t333.length co55 : Value).ownBlock ∧ some k_ ≠ (v341 : Value).ownBlock ∧ some k_ ≠ (v344 : Value).ownBlock) (.slice Ao35 t311.length co35) t311) := ⟨h8_⟩
  have n9_ : Aside0 (Kd.R (Kd.int .u8) 5 w61 w.heap.size (fun k_ => some k_ ≠ (.slice A316_2 ((rd_T25 t303 2).f2).length c316_2 : Value).ownBlock ∧ some k_ ≠ (.slice A316_2 ((rd_T25 t303 2).f2).length c316_2 : Value).ownBlock ∧ some k_ ≠ (.slice A318_2 ((rd_T25 t303 2).f2).length c318_2 : Value).ownBlock ∧ some k_ ≠ (.slice Ao29 y300.length co29 : Value).ownBlock ∧ some k_ ≠ (.slice Ao34 t308.length co34 : Value).ownBlock ∧ some k_ ≠ (.slice Ao53 t330.length co53 : Value).ownBlock ∧ some k_ ≠ (v341 : Value).ownBlock) (.slice Ao43 t320.length co43) t320) := ⟨h9_⟩
  have n10_ : Aside0 (Kd.S k25 25 w61 w.heap.size (fun k_ => some k_ ≠ (.slice A316_2 ((rd_T25 t303 2).f2).length c316_2 : Value).ownBlock ∧ some k_ ≠ (.slice A316_2 ((rd_T25 t303 2).f2).length c316_2 : Value).ownBlock ∧ some k_ ≠ (.slice A318_2 ((rd_T25 t303 2).f2).length c318_2 : Value).ownBlock ∧ some k_ ≠ (.slice Ao29 y300.length co29 : Value).ownBlock ∧ some k_ ≠ (.slice (some ad316) t303.length co37 : Value).ownBlock ∧ some k_ ≠ (.slice Ao34 t308.length co34 : Value).ownBlock ∧ some k_ ≠ (.slice Ao35 t311.length co35 : Value).ownBlock ∧ some k_ ≠ (.slice Ao43 t320.length co43 : Value).ownBlock ∧ some k_ ≠ (.slice Ao53 t330.length co53 : Value).ownBlock ∧ some k_ ≠ (.slice Ao55 t333.length co55 : Value).ownBlock ∧ some k_ ≠ (v341 : Value).ownBlock ∧ some k_ ≠ (v344 : Value).ownBlock) (.slice Ao45 t323.length co45) t323) := ⟨h10_⟩
  have n11_ : Aside0 (Kd.R (Kd.int .u8) 5 w61 w.heap.size (fun k_ => some k_ ≠ (.slice A316_2 ((rd_T25 t303 2).f2).length c316_2 : Value).ownBlock ∧ some k_ ≠ (.slice A316_2 ((rd_T25 t303 2).f2).length c316_2 : Value).ownBlock ∧ some k_ ≠ (.slice A318_2 ((rd_T25 t303 2).f2).length c318_2 : Value).ownBlock ∧ some k_ ≠ (.slice A328_2 ((rd_T25 t303 0).f2).length c328_2 : Value).ownBlock ∧ some k_ ≠ (.slice Ao29 y300.length co29 : Value).ownBlock ∧ some k_ ≠ (.slice Ao34 t308.length co34 : Value).ownBlock ∧ some k_ ≠ (.slice Ao43 t320.length co43 : Value).ownBlock ∧ some k_ ≠ (v341 : Value).ownBlock) (.slice Ao53 t330.length co53) t330) := ⟨h11_⟩
  have n12_ : Aside0 (Kd.S k25 25 w61 w.heap.size (fun k_ => some k_ ≠ (.slice A316_2 ((rd_T25 t303 2).f2).length c316_2 : Value).ownBlock ∧ some k_ ≠ (.slice A316_2 ((rd_T25 t303 2).f2).length c316_2 : Value).ownBlock ∧ some k_ ≠ (.slice A318_2 ((rd_T25 t303 2).f2).length c318_2 : Value).ownBlock ∧ some k_ ≠ (.slice A328_2 ((rd_T25 t303 0).f2).length c328_2 : Value).ownBlock ∧ some k_ ≠ (.slice Ao29 y300.length co29 : Value).ownBlock ∧ some k_ ≠ (.slice (some ad316) t303.length co37 : Value).ownBlock ∧ some k_ ≠ (.slice Ao34 t308.length co34 : Value).ownBlock ∧ some k_ ≠ (.slice Ao35 t311.length co35 : Value).ownBlock ∧ some k_ ≠ (.slice Ao43 t320.length co43 : Value).ownBlock ∧ some k_ ≠ (.slice Ao45 t323.length co45 : Value).ownBlock ∧ some k_ ≠ (.slice Ao53 t330.length co53 : Value).ownBlock ∧ some k_ ≠ (v341 : Value).ownBlock ∧ some k_ ≠ (v344 : Value).ownBlock) (.slice Ao55 t333.length co55) t333) := ⟨h12_⟩
  have n13_ : Aside0 (Kd.R (Kd.int .u8) 5 w61 w.heap.size (fun k_ => some k_ ≠ (.slice A316_2 ((rd_T25 t303 2).f2).length c316_2 : Value).ownBlock ∧ some k_ ≠ (.slice A316_2 ((rd_T25 t303 2).f2).length c316_2 : Value).ownBlock ∧ some k_ ≠ (.slice A318_2 ((rd_T25 t303 2).f2).length c318_2 : Value).ownBlock ∧ some k_ ≠ (.slice A328_2 ((rd_T25 t303 0).f2).length c328_2 : Value).ownBlock ∧ some k_ ≠ (.slice A338_2 ((rd_T25 t303 1).f2).length c338_2 : Value).ownBlock ∧ some k_ ≠ (.slice Ao29 y300.length co29 : Value).ownBlock ∧ some k_ ≠ (.slice Ao34 t308.length co34 : Value).ownBlock ∧ some k_ ≠ (.slice Ao43 t320.length co43 : Value).ownBlock ∧ some k_ ≠ (.slice Ao53 t330.length co53 : Value).ownBlock) v341 t340) := ⟨h13_⟩
  have n14_ : Aside0 (Kd.S k25 25 w61 w.heap.size (fun k_ => some k_ ≠ (.slice A316_2 ((rd_T25 t303 2).f2).length c316_2 : Value).ownBlock ∧ some k_ ≠ (.slice A316_2 ((rd_T25 t303 2).f2).length c316_2 : Value).ownBlock ∧ some k_ ≠ (.slice A318_2 ((rd_T25 t303 2).f2).length c318_2 : Value).ownBlock ∧ some k_ ≠ (.slice A328_2 ((rd_T25 t303 0).f2).length c328_2 : Value).ownBlock ∧ some k_ ≠ (.slice A338_2 ((rd_T25 t303 1).f2).length c338_2 : Value).ownBlock ∧ some k_ ≠ (.slice Ao29 y300.length co29 : Value).ownBlock ∧ some k_ ≠ (.slice (some ad316) t303.length co37 : Value).ownBlock ∧ some k_ ≠ (.slice Ao34 t308.length co34 : Value).ownBlock ∧ some k_ ≠ (.slice Ao35 t311.length co35 : Value).ownBlock ∧ some k_ ≠ (.slice Ao43 t320.length co43 : Value).ownBlock ∧ some k_ ≠ (.slice Ao45 t323.length co45 : Value).ownBlock ∧ some k_ ≠ (.slice Ao53 t330.length co53 : Value).ownBlock ∧ some k_ ≠ (.slice Ao55 t333.length co55 : Value).ownBlock ∧ some k_ ≠ (v341 : Value).ownBlock) v344 t343) := ⟨h14_⟩
  have n15_ : Aside0 (w61.heap[gb315]? = some (.cells #[.int .i64 t307, .slice Ao34 t308.length co34, .slice Ao35 t311.length co35] 34 (0, 0))) := ⟨h15_⟩
  have n16_ : Aside0 (w61.heap[gb327]? = some (.cells #[.int .i64 t319, .slice Ao43 t320.length co43, .slice Ao45 t323.length co45] 34 (0, 0))) := ⟨h16_⟩
  have n17_ : Aside0 (w61.heap[gb337]? = some (.cells #[.int .i64 t329, .slice Ao53 t330.length co53, .slice Ao55 t333.length co55] 34 (0, 0))) := ⟨h17_⟩
  have n18_ : Aside0 (w61.heap[gb347]? = some (.cells #[.int .i64 0, .slice none 0 0, .slice none 0 0] 34 (0, 0))) := ⟨h18_⟩
  have n19_ : Aside0 (w.heap.size ≤ gb347) := ⟨h19_⟩
  have n20_ : Aside0 (w.heap.size ≤ gb347) := ⟨h20_⟩
  have n21_ : Aside0 (gb315 ≠ gb347) := ⟨h21_⟩
  have n22_ : Aside0 (gb347 ≠ gb315) := ⟨h22_⟩
  have n23_ : Aside0 (gb327 ≠ gb347) := ⟨h23_⟩
  have n24_ : Aside0 (gb347 ≠ gb327) := ⟨h24_⟩
  have n25_ : Aside0 (gb337 ≠ gb347) := ⟨h25_⟩
  have n26_ : Aside0 (gb347 ≠ gb337) := ⟨h26_⟩
  have n27_ : Aside0 (Below w.heap.size w w61) := ⟨h27_⟩
  clear HO302
  clear HO306
  clear HO310
  clear HO313
  clear HL316_2
  clear HL317_2
  clear HL318_2
  clear HO322
  clear HO325
  clear HL328_2
  clear HO332
  clear HO335
  clear BK315
  clear BK327
  clear BK337
  clear HB
  clear h0_ h1_ h2_ h3_ h4_ h5_ h6_ h7_ h8_ h9_ h10_ h11_ h12_ h13_ h14_ h15_ h16_ h17_ h18_ h19_ h20_ h21_ h22_ h23_ h24_ h25_ h26_ h27_
  have HL316_2 := n0_
  have HL317_2 := n1_
  have HL318_2 := n2_
  have HL328_2 := n3_
  have HL338_2 := n4_
  have HO302 := n5_
  have HO306 := n6_
  have HO310 := n7_
  have HO313 := n8_
  have HO322 := n9_
  have HO325 := n10_
  have HO332 := n11_
  have HO335 := n12_
  have HO342 := n13_
  have HO345 := n14_
  have BK315 := n15_
  have BK327 := n16_
  have BK337 := n17_
  have BK347 := n18_
  have GW347 := n19_
  have GE347 := n20_
  have NB315_347 := n21_
  have NB347_315 := n22_
  have NB327_347 := n23_
  have NB347_327 := n24_
  have NB337_347 := n25_
  have NB347_337 := n26_
  have HB := n27_
  clear n0_ n1_ n2_ n3_ n4_ n5_ n6_ n7_ n8_ n9_ n10_ n11_ n12_ n13_ n14_ n15_ n16_ n17_ n18_ n19_ n20_ n21_ n22_ n23_ n24_ n25_ n26_ n27_
  have hHeld : w61.cell? ⟨gb337, 0, none⟩ = some (.int .i64 t329) ∧ w61.cell? ⟨gb337, 1, none⟩ = some (.slice Ao53 t330.length co53) ∧ w61.cell? ⟨gb337, 2, none⟩ = some (.slice Ao55 t333.length co55) ∧ w61.cell? ⟨ad316.block, ad316.off + 4, none⟩ = some (.int .i64 ((rd_T25 t303 1).f0)) ∧ w61.cell? ⟨ad316.block, ad316.off + 4 + 1, none⟩ = some (.int .i64 ((rd_T25 t303 1).f1)) ∧ w61.cell? ⟨ad316.block, ad316.off + 4 + 2, none⟩ = some (.slice A338_2 ((rd_T25 t303 1).f2).length c338_2) ∧ w61.cell? ⟨ad316.block, ad316.off + 4 + 3, none⟩ = some (.int .u64 ((rd_T25 t303 1).f3)) := hS_
  obtain ⟨Ao63, co63, eo63⟩ := Kd.R_slice HO342.out
  (first | subst eo63 | (injection eo63 with f1_ f2_ f3_; have f4_ := f1_.symm; have f5_ := f3_.symm; clear f1_ f2_ f3_; subst f4_; subst f5_))
  obtain ⟨Ao65, co65, eo65⟩ := Kd.S_slice HO345.out
  (first | subst eo65 | (injection eo65 with f1_ f2_ f3_; have f4_ := f1_.symm; have f5_ := f3_.symm; clear f1_ f2_ f3_; subst f4_; subst f5_))
  refine norm_ (a' := ?_) ?_ ?_
  rotate_left
  ·
   simp only [putAll, Act.put, List.setIfInBounds_toArray, List.set_cons_zero, List.set_cons_succ]
   rfl
  refine one_ (i := 9) (N := none) #[true, true, true, true, true, true, true, true, true, true, false] rfl rfl (one_of HT_.out (by kernel_rfl)) (by decide) (fun K hK => ?_)
  have hs62 : w61.cell? ⟨gb347, 0, none⟩ = some (.int .i64 0) := (blk_cell BK347.out 0).trans rfl
  have hfs62 := blk_frozen BK347.out 0
  have hns62_0 := NB315_347.out
  have hns62_1 := NB327_347.out
  have hns62_2 := NB337_347.out
  have hms62_0 := NB347_315.out
  have hms62_1 := NB347_327.out
  have hms62_2 := NB347_337.out
  have hs64 : w61.cell? ⟨gb347, 1, none⟩ = some (.slice none 0 0) := (blk_cell BK347.out 1).trans rfl
  have hfs64 := blk_frozen BK347.out 1
  have hns64_0 := NB315_347.out
  have hns64_1 := NB327_347.out
  have hns64_2 := NB337_347.out
  have hms64_0 := NB347_315.out
  have hms64_1 := NB347_327.out
  have hms64_2 := NB347_337.out
  have hs66 : w61.cell? ⟨gb347, 2, none⟩ = some (.slice none 0 0) := (blk_cell BK347.out 2).trans rfl
  have hfs66 := blk_frozen BK347.out 2
  have hns66_0 := NB315_347.out
  have hns66_1 := NB327_347.out
  have hns66_2 := NB337_347.out
  have hms66_0 := NB347_315.out
  have hms66_1 := NB347_327.out
  have hms66_2 := NB347_337.out
  refine skip_ (w1 := ?_) (by rfl) rfl ?_ ?_
  rotate_left
  ·
   go_simp
   rfl
  refine hK.out _ _ ⟨((cell_far (p := ⟨gb347, _, none⟩) NB337_347.out _).trans (((cell_far (p := ⟨gb347, _, none⟩) NB337_347.out _).trans (((cell_far (p := ⟨gb347, _, none⟩) NB337_347.out _).trans (hHeld.1)))))), ((cell_far (p := ⟨gb347, _, none⟩) NB337_347.out _).trans (((cell_far (p := ⟨gb347, _, none⟩) NB337_347.out _).trans (((cell_far (p := ⟨gb347, _, none⟩) NB337_347.out _).trans (hHeld.2.1)))))), ((cell_far (p := ⟨gb347, _, none⟩) NB337_347.out _).trans (((cell_far (p := ⟨gb347, _, none⟩) NB337_347.out _).trans (((cell_far (p := ⟨gb347, _, none⟩) NB337_347.out _).trans (hHeld.2.2.1)))))), ((cell_far (p := ⟨gb347, _, none⟩) (ob (Kd.own_blk (Kd.S_ne HO306.out BK347.out (by decide)))) _).trans (((cell_far (p := ⟨gb347, _, none⟩) (ob (Kd.own_blk (Kd.S_ne HO306.out BK347.out (by decide)))) _).trans (((cell_far (p := ⟨gb347, _, none⟩) (ob (Kd.own_blk (Kd.S_ne HO306.out BK347.out (by decide)))) _).trans (hHeld.2.2.2.1)))))), ((cell_far (p := ⟨gb347, _, none⟩) (ob (Kd.own_blk (Kd.S_ne HO306.out BK347.out (by decide)))) _).trans (((cell_far (p := ⟨gb347, _, none⟩) (ob (Kd.own_blk (Kd.S_ne HO306.out BK347.out (by decide)))) _).trans (((cell_far (p := ⟨gb347, _, none⟩) (ob (Kd.own_blk (Kd.S_ne HO306.out BK347.out (by decide)))) _).trans (hHeld.2.2.2.2.1)))))), ((cell_far (p := ⟨gb347, _, none⟩) (ob (Kd.own_blk (Kd.S_ne HO306.out BK347.out (by decide)))) _).trans (((cell_far (p := ⟨gb347, _, none⟩) (ob (Kd.own_blk (Kd.S_ne HO306.out BK347.out (by decide)))) _).trans (((cell_far (p := ⟨gb347, _, none⟩) (ob (Kd.own_blk (Kd.S_ne HO306.out BK347.out (by decide)))) _).trans (hHeld.2.2.2.2.2.1)))))), ((cell_far (p := ⟨gb347, _, none⟩) (ob (Kd.own_blk (Kd.S_ne HO306.out BK347.out (by decide)))) _).trans (((cell_far (p := ⟨gb347, _, none⟩) (ob (Kd.own_blk (Kd.S_ne HO306.out BK347.out (by decide)))) _).trans (((cell_far (p := ⟨gb347, _, none⟩) (ob (Kd.own_blk (Kd.S_ne HO306.out BK347.out (by decide)))) _).trans (hHeld.2.2.2.2.2.2))))))⟩ (fun hHeld => ?_)
  clear hK K
  refine pz 10 11 HT_.out ?_
  refine done_ (done_of HT_.out (by kernel_rfl)) ?_
  try go_wp2_with (first | ((with_reducible refine gate_callee (f := 14) rfl ?_); refine goesL_ (some 75) rfl rfl Try.func14 (by kernel_rfl) rfl #[.int .i64 0] rfl lz ?_; (with_reducible refine (upload_New.calls 0 t348 t349 t352 t355 _ A14.out).mono ?_); rintro e w67 ⟨v350, v353, rfl, ho0, ho1, hb⟩; refine ⟨_, rfl, ?_⟩; have HO351 := am (Kd.R_lower (Kd.R_new' (Kd.R_new' (Kd.R_new' (Kd.R_new' (Kd.R_new' (Kd.R_new' (Kd.R_new' (Kd.R_new' (Kd.R_new' (Kd.R_new' ho0 (Kd.R_lt (rz (rf3 HO302.out BK347.out)))) (Kd.R_lt (rz (rf3 HO310.out BK347.out)))) (Kd.R_lt (rz (rf3 HL316_2.out BK347.out)))) (Kd.R_lt (rz (rf3 HL317_2.out BK347.out)))) (Kd.R_lt (rz (rf3 HL318_2.out BK347.out)))) (Kd.R_lt (rz (rf3 HO322.out BK347.out)))) (Kd.R_lt (rz (rf3 HL328_2.out BK347.out)))) (Kd.R_lt (rz (rf3 HO332.out BK347.out)))) (Kd.R_lt (rz (rf3 HL338_2.out BK347.out)))) (Kd.R_lt (rz (rf3 HO342.out BK347.out)))) (below_size (hz4 HB.out GE315.out GE327.out GE337.out GE347.out))); have HO354 := am (Kd.S_lower (Kd.S_new' (Kd.S_new' (Kd.S_new' (Kd.S_new' (Kd.S_new' (Kd.S_new' (Kd.S_new' (Kd.S_new' (Kd.S_new' (Kd.S_new' (Kd.S_new' (Kd.S_new' (Kd.S_new' (Kd.S_new' (Kd.S_new' ho1 (Kd.R_lt (rz (rf3 HO302.out BK347.out)))) (Kd.S_lt (sz (sf3 HO306.out BK347.out)))) (Kd.R_lt (rz (rf3 HO310.out BK347.out)))) (Kd.S_lt (sz (sf3 HO313.out BK347.out)))) (Kd.R_lt (rz (rf3 HL316_2.out BK347.out)))) (Kd.R_lt (rz (rf3 HL317_2.out BK347.out)))) (Kd.R_lt (rz (rf3 HL318_2.out BK347.out)))) (Kd.R_lt (rz (rf3 HO322.out BK347.out)))) (Kd.S_lt (sz (sf3 HO325.out BK347.out)))) (Kd.R_lt (rz (rf3 HL328_2.out BK347.out)))) (Kd.R_lt (rz (rf3 HO332.out BK347.out)))) (Kd.S_lt (sz (sf3 HO335.out BK347.out)))) (Kd.R_lt (rz (rf3 HL338_2.out BK347.out)))) (Kd.R_lt (rz (rf3 HO342.out BK347.out)))) (Kd.S_lt (sz (sf3 HO345.out BK347.out)))) (below_size (hz4 HB.out GE315.out GE327.out GE337.out GE347.out))); replace HO302 := am (Kd.R_elder' (rz (rf3 HO302.out BK347.out)) (Kd.R_base ho0) hb); replace HO306 := am (Kd.S_mono (Kd.S_told (Kd.S_told (Kd.S_old (sz (sf3 HO306.out BK347.out)) hb) (Kd.R_base ho0)) (Kd.S_base ho1)) (fun _ h_ => h_.1)); replace HO310 := am (Kd.R_elder' (rz (rf3 HO310.out BK347.out)) (Kd.R_base ho0) hb); replace HO313 := am (Kd.S_mono (Kd.S_told (Kd.S_told (Kd.S_old (sz (sf3 HO313.out BK347.out)) hb) (Kd.R_base ho0)) (Kd.S_base ho1)) (fun _ h_ => h_.1)); replace HL316_2 := am (Kd.R_elder' (rz (rf3 HL316_2.out BK347.out)) (Kd.R_base ho0) hb); replace HL317_2 := am (Kd.R_elder' (rz (rf3 HL317_2.out BK347.out)) (Kd.R_base ho0) hb); replace HL318_2 := am (Kd.R_elder' (rz (rf3 HL318_2.out BK347.out)) (Kd.R_base ho0) hb); replace HO322 := am (Kd.R_elder' (rz (rf3 HO322.out BK347.out)) (Kd.R_base ho0) hb); replace HO325 := am (Kd.S_mono (Kd.S_told (Kd.S_told (Kd.S_old (sz (sf3 HO325.out BK347.out)) hb) (Kd.R_base ho0)) (Kd.S_base ho1)) (fun _ h_ => h_.1)); replace HL328_2 := am (Kd.R_elder' (rz (rf3 HL328_2.out BK347.out)) (Kd.R_base ho0) hb); replace HO332 := am (Kd.R_elder' (rz (rf3 HO332.out BK347.out)) (Kd.R_base ho0) hb); replace HO335 := am (Kd.S_mono (Kd.S_told (Kd.S_told (Kd.S_old (sz (sf3 HO335.out BK347.out)) hb) (Kd.R_base ho0)) (Kd.S_base ho1)) (fun _ h_ => h_.1)); replace HL338_2 := am (Kd.R_elder' (rz (rf3 HL338_2.out BK347.out)) (Kd.R_base ho0) hb); replace HO342 := am (Kd.R_elder' (rz (rf3 HO342.out BK347.out)) (Kd.R_base ho0) hb); replace HO345 := am (Kd.S_mono (Kd.S_told (Kd.S_told (Kd.S_old (sz (sf3 HO345.out BK347.out)) hb) (Kd.R_base ho0)) (Kd.S_base ho1)) (fun _ h_ => h_.1)); replace BK315 := am (blk_below (bf1 NB315_347.out BK315.out) hb); replace BK327 := am (blk_below (bf1 NB327_347.out BK327.out) hb); replace BK337 := am (blk_below (bf1 NB337_347.out BK337.out) hb); replace BK347 := am (blk_below (g := gb347) (o := .cells #[.int .i64 t339, .slice Ao63 t340.length co63, .slice Ao65 t343.length co65] 34 (0, 0)) (by (with_reducible repeat (first | refine blk_drewN ?_ _ | refine blk_drew ?_ | refine blk_alloc ?_ _)); refine blk_put (cs := #[.int .i64 t339, .slice Ao63 t340.length co63, .slice none 0 0]) ?_ 2 _ rfl; (with_reducible repeat (first | refine blk_drewN ?_ _ | refine blk_drew ?_ | refine blk_alloc ?_ _)); refine blk_put (cs := #[.int .i64 t339, .slice none 0 0, .slice none 0 0]) ?_ 1 _ rfl; (with_reducible repeat (first | refine blk_drewN ?_ _ | refine blk_drew ?_ | refine blk_alloc ?_ _)); refine blk_put (cs := #[.int .i64 0, .slice none 0 0, .slice none 0 0]) ?_ 0 _ rfl; (with_reducible repeat (first | refine blk_drewN ?_ _ | refine blk_drew ?_ | refine blk_alloc ?_ _)); exact BK347.out) hb); replace HB := am (below_step (hz4 HB.out GE315.out GE327.out GE337.out GE347.out) hb); (try clear hb); (try clear hb2); (try clear hk); (try clear hi); (try clear ho0); (try clear ho1)) | ((with_reducible refine gate_dst (N := 12) rfl ?_); (try (refine gate_guard (by rfl) ?_; dsimp only)); refine box_event ?hg (N := 12) ?hd (cs := #[.int .i64 0, .slice none 0 0, .slice none 0 0]) (t := 34) ?hr ?_; (case hd => rfl); (case hg => rfl); (case hr => exact gz); intro gb356 hg w68 hbox hb; replace HO302 := am (Kd.R_below (rz HO302.out) hb); replace HO306 := am (Kd.S_below (sz HO306.out) hb); replace HO310 := am (Kd.R_below (rz HO310.out) hb); replace HO313 := am (Kd.S_below (sz HO313.out) hb); replace HL316_2 := am (Kd.R_below (rz HL316_2.out) hb); replace HL317_2 := am (Kd.R_below (rz HL317_2.out) hb); replace HL318_2 := am (Kd.R_below (rz HL318_2.out) hb); replace HO322 := am (Kd.R_below (rz HO322.out) hb); replace HO325 := am (Kd.S_below (sz HO325.out) hb); replace HL328_2 := am (Kd.R_below (rz HL328_2.out) hb); replace HO332 := am (Kd.R_below (rz HO332.out) hb); replace HO335 := am (Kd.S_below (sz HO335.out) hb); replace HL338_2 := am (Kd.R_below (rz HL338_2.out) hb); replace HO342 := am (Kd.R_below (rz HO342.out) hb); replace HO345 := am (Kd.S_below (sz HO345.out) hb); replace HO351 := am (Kd.R_below (rz HO351.out) hb); replace HO354 := am (Kd.S_below (sz HO354.out) hb); have BK356 := am (hbox); have GW356 := am ((bs hg (hz4 HB.out GE315.out GE327.out GE337.out GE347.out) : w.heap.size ≤ gb356)); have GE356 := am ((bs hg (hz4 HB.out GE315.out GE327.out GE337.out GE347.out) : w.heap.size ≤ gb356)); replace HB := am (below_step (hz4 HB.out GE315.out GE327.out GE337.out GE347.out) hb); have NB315_356 := am ((nl hg (bz BK315.out) : gb315 ≠ gb356)); have NB356_315 := am ((ng hg (bz BK315.out) : gb356 ≠ gb315)); replace BK315 := am (blk_below (bz BK315.out) hb); have NB327_356 := am ((nl hg (bz BK327.out) : gb327 ≠ gb356)); have NB356_327 := am ((ng hg (bz BK327.out) : gb356 ≠ gb327)); replace BK327 := am (blk_below (bz BK327.out) hb); have NB337_356 := am ((nl hg (bz BK337.out) : gb337 ≠ gb356)); have NB356_337 := am ((ng hg (bz BK337.out) : gb356 ≠ gb337)); replace BK337 := am (blk_below (bz BK337.out) hb); have NB347_356 := am ((nl hg (bz BK347.out) : gb347 ≠ gb356)); have NB356_347 := am ((ng hg (bz BK347.out) : gb356 ≠ gb347)); replace BK347 := am (blk_below (bz BK347.out) hb); clear hb hbox hg; have hnb69 := NB356_315.out; have hnc69 := NB315_356.out; have hnb70 := NB356_327.out; have hnc70 := NB327_356.out; have hnb71 := NB356_337.out; have hnc71 := NB337_356.out; have hnb72 := NB356_347.out; have hnc72 := NB347_356.out; obtain ⟨hcz73_0, hcz73_1, hcz73_2⟩ := cs3 BK356.out; obtain ⟨hfz73_0, hfz73_1, hfz73_2⟩ := fs3 BK356.out; obtain ⟨Ao74, co74, eo74⟩ := Kd.R_slice HO351.out; subst eo74; obtain ⟨Ao75, co75, eo75⟩ := Kd.S_slice HO354.out; subst eo75; have hnb76 := NB327_315.out; have hnc76 := NB315_327.out; have hnb77 := NB327_337.out; have hnc77 := NB337_327.out; have hnb78 := NB327_347.out; have hnc78 := NB347_327.out; obtain ⟨hcz79_0, hcz79_1, hcz79_2⟩ := cs3 BK327.out; obtain ⟨hfz79_0, hfz79_1, hfz79_2⟩ := fs3 BK327.out) | (go_at_call 21; (with_reducible refine (upload_Need.calls t319 _ _ t320 _ _ t323 t357 _ ?side1 ?side2 ?side3 ?side4 A18.out).mono ?_); (case side1 => refine (Kd.R_reads' (e := 5) (base := w.heap.size) (ok := fun k_ => ((some k_ ≠ (.slice A316_2 ((rd_T25 t303 2).f2).length c316_2 : Value).ownBlock ∧ (some k_ ≠ (.slice A316_2 ((rd_T25 t303 2).f2).length c316_2 : Value).ownBlock ∧ (some k_ ≠ (.slice A318_2 ((rd_T25 t303 2).f2).length c318_2 : Value).ownBlock ∧ (some k_ ≠ (.slice Ao29 y300.length co29 : Value).ownBlock ∧ (some k_ ≠ (.slice Ao34 t308.length co34 : Value).ownBlock ∧ (some k_ ≠ (.slice Ao53 t330.length co53 : Value).ownBlock ∧ some k_ ≠ (.slice Ao63 t340.length co63 : Value).ownBlock)))))) ∧ some k_ ≠ (.slice Ao74 t349.length co74 : Value).ownBlock)) (n := t320.length) (c := co43) ?_).2.2; exact (rz (rf3 HO322.out BK356.out))); (case side2 => exact (Kd.R_reads' HO322.out).2.1); (case side3 => refine (Kd.S_reads' (e := 25) (base := w.heap.size) (ok := fun k_ => (((some k_ ≠ (.slice A316_2 ((rd_T25 t303 2).f2).length c316_2 : Value).ownBlock ∧ (some k_ ≠ (.slice A316_2 ((rd_T25 t303 2).f2).length c316_2 : Value).ownBlock ∧ (some k_ ≠ (.slice A318_2 ((rd_T25 t303 2).f2).length c318_2 : Value).ownBlock ∧ (some k_ ≠ (.slice Ao29 y300.length co29 : Value).ownBlock ∧ (some k_ ≠ (.slice (some ad316) t303.length co37 : Value).ownBlock ∧ (some k_ ≠ (.slice Ao34 t308.length co34 : Value).ownBlock ∧ (some k_ ≠ (.slice Ao35 t311.length co35 : Value).ownBlock ∧ (some k_ ≠ (.slice Ao43 t320.length co43 : Value).ownBlock ∧ (some k_ ≠ (.slice Ao53 t330.length co53 : Value).ownBlock ∧ (some k_ ≠ (.slice Ao55 t333.length co55 : Value).ownBlock ∧ (some k_ ≠ (.slice Ao63 t340.length co63 : Value).ownBlock ∧ some k_ ≠ (.slice Ao65 t343.length co65 : Value).ownBlock))))))))))) ∧ some k_ ≠ (.slice Ao74 t349.length co74 : Value).ownBlock) ∧ some k_ ≠ (.slice Ao75 t352.length co75 : Value).ownBlock)) (n := t323.length) (c := co45) ?_).2.2; exact (sz (sf3 HO325.out BK356.out))); (case side4 => exact (Kd.S_reads' HO325.out).2.1); rintro e w80 ⟨rfl, hb⟩; replace HO302 := am (Kd.R_below (rz (rf3 HO302.out BK356.out)) hb); replace HO306 := am (Kd.S_below (sz (sf3 HO306.out BK356.out)) hb); replace HO310 := am (Kd.R_below (rz (rf3 HO310.out BK356.out)) hb); replace HO313 := am (Kd.S_below (sz (sf3 HO313.out BK356.out)) hb); replace HL316_2 := am (Kd.R_below (rz (rf3 HL316_2.out BK356.out)) hb); replace HL317_2 := am (Kd.R_below (rz (rf3 HL317_2.out BK356.out)) hb); replace HL318_2 := am (Kd.R_below (rz (rf3 HL318_2.out BK356.out)) hb); replace HO322 := am (Kd.R_below (rz (rf3 HO322.out BK356.out)) hb); replace HO325 := am (Kd.S_below (sz (sf3 HO325.out BK356.out)) hb); replace HL328_2 := am (Kd.R_below (rz (rf3 HL328_2.out BK356.out)) hb); replace HO332 := am (Kd.R_below (rz (rf3 HO332.out BK356.out)) hb); replace HO335 := am (Kd.S_below (sz (sf3 HO335.out BK356.out)) hb); replace HL338_2 := am (Kd.R_below (rz (rf3 HL338_2.out BK356.out)) hb); replace HO342 := am (Kd.R_below (rz (rf3 HO342.out BK356.out)) hb); replace HO345 := am (Kd.S_below (sz (sf3 HO345.out BK356.out)) hb); replace HO351 := am (Kd.R_below (rz (rf3 HO351.out BK356.out)) hb); replace HO354 := am (Kd.S_below (sz (sf3 HO354.out BK356.out)) hb); replace BK315 := am (blk_below (bf1 NB315_356.out BK315.out) hb); replace BK327 := am (blk_below (bf1 NB327_356.out BK327.out) hb); replace BK337 := am (blk_below (bf1 NB337_356.out BK337.out) hb); replace BK347 := am (blk_below (bf1 NB347_356.out BK347.out) hb); replace BK356 := am (blk_below (g := gb356) (o := .cells #[.int .i64 t348, .slice Ao74 t349.length co74, .slice Ao75 t352.length co75] 34 (0, 0)) (by (with_reducible repeat (first | refine blk_drewN ?_ _ | refine blk_drew ?_ | refine blk_alloc ?_ _)); refine blk_put (cs := #[.int .i64 t348, .slice Ao74 t349.length co74, .slice none 0 0]) ?_ 2 _ rfl; (with_reducible repeat (first | refine blk_drewN ?_ _ | refine blk_drew ?_ | refine blk_alloc ?_ _)); refine blk_put (cs := #[.int .i64 t348, .slice none 0 0, .slice none 0 0]) ?_ 1 _ rfl; (with_reducible repeat (first | refine blk_drewN ?_ _ | refine blk_drew ?_ | refine blk_alloc ?_ _)); refine blk_put (cs := #[.int .i64 0, .slice none 0 0, .slice none 0 0]) ?_ 0 _ rfl; (with_reducible repeat (first | refine blk_drewN ?_ _ | refine blk_drew ?_ | refine blk_alloc ?_ _)); exact BK356.out) hb); replace HB := am (below_step (hz5 HB.out GE315.out GE327.out GE337.out GE347.out GE356.out) hb); (try clear hb); (try clear hb2); (try clear hk); (try clear hi); obtain ⟨hcz81_0, hcz81_1, hcz81_2⟩ := cs3 BK327.out; obtain ⟨hfz81_0, hfz81_1, hfz81_2⟩ := fs3 BK327.out; have hnb82 := NB337_315.out; have hnc82 := NB315_337.out; have hnb83 := NB337_347.out; have hnc83 := NB347_337.out; obtain ⟨hcz84_0, hcz84_1, hcz84_2⟩ := cs3 BK337.out; obtain ⟨hfz84_0, hfz84_1, hfz84_2⟩ := fs3 BK337.out) | (go_at_call 21; (with_reducible refine (upload_Need.calls t329 _ _ t330 _ _ t333 t358 _ ?side1 ?side2 ?side3 ?side4 A21.out).mono ?_); (case side1 => repeat (first | exact (Kd.R_reads' HO332.out).2.2 | (with_reducible refine Kd.C_alloc ?_ _) | (with_reducible refine Kd.C_drewN ?_ _) | (with_reducible refine Kd.C_drew ?_))); (case side2 => exact (Kd.R_reads' HO332.out).2.1); (case side3 => repeat (first | exact (Kd.S_reads' HO335.out).2.2 | (with_reducible refine Kd.C_alloc ?_ _) | (with_reducible refine Kd.C_drewN ?_ _) | (with_reducible refine Kd.C_drew ?_))); (case side4 => exact (Kd.S_reads' HO335.out).2.1); rintro e w85 ⟨rfl, hb⟩; replace HO302 := am (Kd.R_below (rz HO302.out) hb); replace HO306 := am (Kd.S_below (sz HO306.out) hb); replace HO310 := am (Kd.R_below (rz HO310.out) hb); replace HO313 := am (Kd.S_below (sz HO313.out) hb); replace HL316_2 := am (Kd.R_below (rz HL316_2.out) hb); replace HL317_2 := am (Kd.R_below (rz HL317_2.out) hb); replace HL318_2 := am (Kd.R_below (rz HL318_2.out) hb); replace HO322 := am (Kd.R_below (rz HO322.out) hb); replace HO325 := am (Kd.S_below (sz HO325.out) hb); replace HL328_2 := am (Kd.R_below (rz HL328_2.out) hb); replace HO332 := am (Kd.R_below (rz HO332.out) hb); replace HO335 := am (Kd.S_below (sz HO335.out) hb); replace HL338_2 := am (Kd.R_below (rz HL338_2.out) hb); replace HO342 := am (Kd.R_below (rz HO342.out) hb); replace HO345 := am (Kd.S_below (sz HO345.out) hb); replace HO351 := am (Kd.R_below (rz HO351.out) hb); replace HO354 := am (Kd.S_below (sz HO354.out) hb); replace BK315 := am (blk_below (bz BK315.out) hb); replace BK327 := am (blk_below (bz BK327.out) hb); replace BK337 := am (blk_below (bz BK337.out) hb); replace BK347 := am (blk_below (bz BK347.out) hb); replace BK356 := am (blk_below (bz BK356.out) hb); replace HB := am (below_step (hz5 HB.out GE315.out GE327.out GE337.out GE347.out GE356.out) hb); (try clear hb); (try clear hb2); (try clear hk); (try clear hi); obtain ⟨hcz86_0, hcz86_1, hcz86_2⟩ := cs3 BK337.out; obtain ⟨hfz86_0, hfz86_1, hfz86_2⟩ := fs3 BK337.out; have hnb87 := NB347_315.out; have hnc87 := NB315_347.out; obtain ⟨hcz88_0, hcz88_1, hcz88_2⟩ := cs3 BK347.out; obtain ⟨hfz88_0, hfz88_1, hfz88_2⟩ := fs3 BK347.out) | (go_at_call 22; (with_reducible refine (examboardlaw53_equal.calls k _ _ t340 _ _ y300 true _ ?side1 ?side2 ?side3 ?side4 A24.out).mono ?_); (case side1 => repeat (first | exact (Kd.R_reads' HO342.out).2.2 | (with_reducible refine Kd.C_alloc ?_ _) | (with_reducible refine Kd.C_drewN ?_ _) | (with_reducible refine Kd.C_drew ?_))); (case side2 => exact (Kd.R_reads' HO342.out).2.1); (case side3 => repeat (first | exact (Kd.R_reads' HO302.out).2.2 | (with_reducible refine Kd.C_alloc ?_ _) | (with_reducible refine Kd.C_drewN ?_ _) | (with_reducible refine Kd.C_drew ?_))); (case side4 => exact (Kd.R_reads' HO302.out).2.1); rintro e w' ⟨rfl, ⟨nd, rfl⟩⟩))
  go_ret
  exact ⟨ez, hz5 HB.out GE315.out GE327.out GE337.out GE347.out GE356.out⟩
 ·
  replace c25 := Bool.eq_false_iff.mpr c25
  subst c25
  have H1 : (none) = some r := by rw [if_neg (show ¬ (false = true) by decide)] at H; exact H
  clear H
  have H := H1
  clear H1
  exact absurd H (by simp)

end Go.Proofs.Ytglpnbcockancaa.Q
