/- Made by wip/myprint.py of this session (it drives the kit's printer): what the calls of the Go functions come to, as plain Lean functions, and the row of a law over them; without conditions. -/
import Derived.Test.YteeggfnailpcpaaDoorQx0
import Derived.Test.YteeggfnailpcpaaDoorQx1
import Derived.Test.YteeggfnailpcpaaDoorQx10
import Derived.Test.YteeggfnailpcpaaDoorQx12
import Derived.Test.YteeggfnailpcpaaDoorQx13
namespace Go.Proofs.YteeggfnailpcpaaDoor.Q
open Go.RowKit Go.Proofs.YteeggfnailpcpaaDoorW.PrintWords Go.Proofs.YteeggfnailpcpaaDoorW.PrintLast Go.Proofs.YteeggfnailpcpaaDoorW.PrintMore
attribute [local go_sem] max2_int min2_int max_two min_two max_three min_three max_four min_four   -- for this text's walks alone
set_option linter.unusedVariables false
set_option linter.unusedSimpArgs false

/-! ### examboardlaw49_JournalTrim: function 4 -/
def examboardlaw49_JournalTrim.f (k : Nat) (l0 : List Int) : Option (Bool) := (journal_Trim.f k l0).bind fun t434 => ((journal_Read.f k l0).bind fun bt437 => ((journal_Read.f k t434).bind fun bt442 => (if bt442.2.2 = 0 then (if bt442.2.1 = (t434.length : Int) then (if bt437.2.1 = bt442.2.1 then ((examboardlaw49_same.f k bt437.1 bt442.1).bind fun t447 => (if t447 = true then ((journal_Count.f k l0).bind fun t448 => (if (bt437.1.length : Int) = t448 then ((journal_Count.f k t434).bind fun t449 => (if t449 = (bt437.1.length : Int) then ((journal_Extends.f l0 t434).bind fun t450 => (if t450 = true then ((journal_Trim.f k t434).bind fun t451 => ((examboardlaw49_equal.f k t451 t434).bind fun t454 => (if t454 = true then (if ((bt437.2.2 == 0) != (bt437.2.1 == (l0.length : Int))) = true then (none) else ((journal_Last.f k l0).bind fun bt455 => ((journal_Last.f k t434).bind fun bt457 => (if bt455.2 = bt437.2.2 then (if bt457.2 = 0 then ((examboardlaw49_awake.f k).bind fun t459 => (some t459)) else (none)) else (none))))) else (none)))) else (none))) else (none))) else (none))) else (none))) else (none)) else (none)) else (none))))
theorem examboardlaw49_JournalTrim.mono : ∀ a0 k, LeO (examboardlaw49_JournalTrim.f k a0) (examboardlaw49_JournalTrim.f (k + 1) a0) := by
 intro a0 k
 unfold examboardlaw49_JournalTrim.f
 repeat' first
   | (with_reducible exact examboardlaw49_awake.mono _)
   | (with_reducible exact examboardlaw49_equal.mono _ _ _)
   | (with_reducible exact examboardlaw49_same.mono _ _ _)
   | (with_reducible exact journal_Count.mono _ _)
   | (with_reducible exact journal_Last.mono _ _)
   | (with_reducible exact journal_Read.mono _ _)
   | (with_reducible exact journal_Trim.mono _ _)
   | (with_reducible exact LeO.refl _)
   | (with_reducible exact LeO.none _)
   | (with_reducible refine LeO.ite ?_ ?_)
   | (with_reducible refine LeO.bind ?_ (fun _ => ?_))
   | exact examboardlaw49_awake.mono _
   | exact examboardlaw49_equal.mono _ _ _
   | exact examboardlaw49_same.mono _ _ _
   | exact journal_Count.mono _ _
   | exact journal_Last.mono _ _
   | exact journal_Read.mono _ _
   | exact journal_Trim.mono _ _
   | exact LeO.none _
   | refine LeO.ite ?_ ?_
   | refine LeO.bind ?_ (fun _ => ?_)
set_option maxHeartbeats 8000000 in
set_option maxRecDepth 100000 in
theorem examboardlaw49_JournalTrim.calls (k : Nat) (A0 : Option Addr) (c0 : Nat) (l0 : List Int) (r : Bool) (w : World) (hG : GlE w) (hr0 : Kd.C (Kd.int .u8) w A0 l0.length l0) (hc0 : l0.length ≤ c0) (h : examboardlaw49_JournalTrim.f k l0 = some r) :
  Calls Tryd.prog 4 #[.slice A0 l0.length c0] w fun e w' => e = .returned (.bool r) ∧ Below w.heap.size w w' := by
 have HR0 := am hr0
 have HC0 := am hc0
 clear hr0 hc0
 have HG_ := am hG
 clear hG
 have HB := am (Below.refl w.heap.size w)
 have H : ((journal_Trim.f k l0).bind fun t434 => ((journal_Read.f k l0).bind fun bt437 => ((journal_Read.f k t434).bind fun bt442 => (if bt442.2.2 = 0 then (if bt442.2.1 = (t434.length : Int) then (if bt437.2.1 = bt442.2.1 then ((examboardlaw49_same.f k bt437.1 bt442.1).bind fun t447 => (if t447 = true then ((journal_Count.f k l0).bind fun t448 => (if (bt437.1.length : Int) = t448 then ((journal_Count.f k t434).bind fun t449 => (if t449 = (bt437.1.length : Int) then ((journal_Extends.f l0 t434).bind fun t450 => (if t450 = true then ((journal_Trim.f k t434).bind fun t451 => ((examboardlaw49_equal.f k t451 t434).bind fun t454 => (if t454 = true then (if ((bt437.2.2 == 0) != (bt437.2.1 == (l0.length : Int))) = true then (none) else ((journal_Last.f k l0).bind fun bt455 => ((journal_Last.f k t434).bind fun bt457 => (if bt455.2 = bt437.2.2 then (if bt457.2 = 0 then ((examboardlaw49_awake.f k).bind fun t459 => (some t459)) else (none)) else (none))))) else (none)))) else (none))) else (none))) else (none))) else (none))) else (none)) else (none)) else (none))))) = some r := h
 clear h
 replace H := Option.bind_eq_some_iff.mp H
 obtain ⟨t434, A20, H⟩ := H
 replace H : ((journal_Read.f k l0).bind fun bt437 => ((journal_Read.f k t434).bind fun bt442 => (if bt442.2.2 = 0 then (if bt442.2.1 = (t434.length : Int) then (if bt437.2.1 = bt442.2.1 then ((examboardlaw49_same.f k bt437.1 bt442.1).bind fun t447 => (if t447 = true then ((journal_Count.f k l0).bind fun t448 => (if (bt437.1.length : Int) = t448 then ((journal_Count.f k t434).bind fun t449 => (if t449 = (bt437.1.length : Int) then ((journal_Extends.f l0 t434).bind fun t450 => (if t450 = true then ((journal_Trim.f k t434).bind fun t451 => ((examboardlaw49_equal.f k t451 t434).bind fun t454 => (if t454 = true then (if ((bt437.2.2 == 0) != (bt437.2.1 == (l0.length : Int))) = true then (none) else ((journal_Last.f k l0).bind fun bt455 => ((journal_Last.f k t434).bind fun bt457 => (if bt455.2 = bt437.2.2 then (if bt457.2 = 0 then ((examboardlaw49_awake.f k).bind fun t459 => (some t459)) else (none)) else (none))))) else (none)))) else (none))) else (none))) else (none))) else (none))) else (none)) else (none)) else (none)))) = some r := H
 have A2 := am A20
 clear A20
 replace H := Option.bind_eq_some_iff.mp H
 obtain ⟨⟨t437, t438, t439⟩, A30, H⟩ := H
 replace H : ((journal_Read.f k t434).bind fun bt442 => (if bt442.2.2 = 0 then (if bt442.2.1 = (t434.length : Int) then (if t438 = bt442.2.1 then ((examboardlaw49_same.f k t437 bt442.1).bind fun t447 => (if t447 = true then ((journal_Count.f k l0).bind fun t448 => (if (t437.length : Int) = t448 then ((journal_Count.f k t434).bind fun t449 => (if t449 = (t437.length : Int) then ((journal_Extends.f l0 t434).bind fun t450 => (if t450 = true then ((journal_Trim.f k t434).bind fun t451 => ((examboardlaw49_equal.f k t451 t434).bind fun t454 => (if t454 = true then (if ((t439 == 0) != (t438 == (l0.length : Int))) = true then (none) else ((journal_Last.f k l0).bind fun bt455 => ((journal_Last.f k t434).bind fun bt457 => (if bt455.2 = t439 then (if bt457.2 = 0 then ((examboardlaw49_awake.f k).bind fun t459 => (some t459)) else (none)) else (none))))) else (none)))) else (none))) else (none))) else (none))) else (none))) else (none)) else (none)) else (none))) = some r := H
 have A3 := am A30
 clear A30
 replace H := Option.bind_eq_some_iff.mp H
 obtain ⟨⟨t442, t443, t444⟩, A40, H⟩ := H
 replace H : (if t444 = 0 then (if t443 = (t434.length : Int) then (if t438 = t443 then ((examboardlaw49_same.f k t437 t442).bind fun t447 => (if t447 = true then ((journal_Count.f k l0).bind fun t448 => (if (t437.length : Int) = t448 then ((journal_Count.f k t434).bind fun t449 => (if t449 = (t437.length : Int) then ((journal_Extends.f l0 t434).bind fun t450 => (if t450 = true then ((journal_Trim.f k t434).bind fun t451 => ((examboardlaw49_equal.f k t451 t434).bind fun t454 => (if t454 = true then (if ((t439 == 0) != (t438 == (l0.length : Int))) = true then (none) else ((journal_Last.f k l0).bind fun bt455 => ((journal_Last.f k t434).bind fun bt457 => (if bt455.2 = t439 then (if bt457.2 = 0 then ((examboardlaw49_awake.f k).bind fun t459 => (some t459)) else (none)) else (none))))) else (none)))) else (none))) else (none))) else (none))) else (none))) else (none)) else (none)) else (none)) = some r := H
 have A4 := am A40
 clear A40
 replace H := it_ H
 obtain ⟨c5, H⟩ := H
 have c5b0 : (t444 == 0) = true := beq_iff_eq.mpr c5
 have c5b1 : (t444 != 0) = false := bne_eq_false_iff_eq.mpr c5
 clear c5
 replace H := it_ H
 obtain ⟨c6, H⟩ := H
 have c6b0 : (t443 == (t434.length : Int)) = true := beq_iff_eq.mpr c6
 have c6b1 : (t443 != (t434.length : Int)) = false := bne_eq_false_iff_eq.mpr c6
 clear c6
 replace H := it_ H
 obtain ⟨c7, H⟩ := H
 have c7b0 : (t438 == t443) = true := beq_iff_eq.mpr c7
 have c7b1 : (t438 != t443) = false := bne_eq_false_iff_eq.mpr c7
 clear c7
 replace H := Option.bind_eq_some_iff.mp H
 obtain ⟨t447, A80, H⟩ := H
 replace H : (if t447 = true then ((journal_Count.f k l0).bind fun t448 => (if (t437.length : Int) = t448 then ((journal_Count.f k t434).bind fun t449 => (if t449 = (t437.length : Int) then ((journal_Extends.f l0 t434).bind fun t450 => (if t450 = true then ((journal_Trim.f k t434).bind fun t451 => ((examboardlaw49_equal.f k t451 t434).bind fun t454 => (if t454 = true then (if ((t439 == 0) != (t438 == (l0.length : Int))) = true then (none) else ((journal_Last.f k l0).bind fun bt455 => ((journal_Last.f k t434).bind fun bt457 => (if bt455.2 = t439 then (if bt457.2 = 0 then ((examboardlaw49_awake.f k).bind fun t459 => (some t459)) else (none)) else (none))))) else (none)))) else (none))) else (none))) else (none))) else (none)) = some r := H
 have A8 := am A80
 clear A80
 by_cases c9 : t447 = true
 ·
  subst c9
  have H1 : ((journal_Count.f k l0).bind fun t448 => (if (t437.length : Int) = t448 then ((journal_Count.f k t434).bind fun t449 => (if t449 = (t437.length : Int) then ((journal_Extends.f l0 t434).bind fun t450 => (if t450 = true then ((journal_Trim.f k t434).bind fun t451 => ((examboardlaw49_equal.f k t451 t434).bind fun t454 => (if t454 = true then (if ((t439 == 0) != (t438 == (l0.length : Int))) = true then (none) else ((journal_Last.f k l0).bind fun bt455 => ((journal_Last.f k t434).bind fun bt457 => (if bt455.2 = t439 then (if bt457.2 = 0 then ((examboardlaw49_awake.f k).bind fun t459 => (some t459)) else (none)) else (none))))) else (none)))) else (none))) else (none))) else (none))) = some r := by rw [if_pos rfl] at H; exact H
  clear H
  have H := H1
  clear H1
  replace H := Option.bind_eq_some_iff.mp H
  obtain ⟨t448, A100, H⟩ := H
  replace H : (if (t437.length : Int) = t448 then ((journal_Count.f k t434).bind fun t449 => (if t449 = (t437.length : Int) then ((journal_Extends.f l0 t434).bind fun t450 => (if t450 = true then ((journal_Trim.f k t434).bind fun t451 => ((examboardlaw49_equal.f k t451 t434).bind fun t454 => (if t454 = true then (if ((t439 == 0) != (t438 == (l0.length : Int))) = true then (none) else ((journal_Last.f k l0).bind fun bt455 => ((journal_Last.f k t434).bind fun bt457 => (if bt455.2 = t439 then (if bt457.2 = 0 then ((examboardlaw49_awake.f k).bind fun t459 => (some t459)) else (none)) else (none))))) else (none)))) else (none))) else (none))) else (none)) = some r := H
  have A10 := am A100
  clear A100
  replace H := it_ H
  obtain ⟨c11, H⟩ := H
  have c11b0 : ((t437.length : Int) == t448) = true := beq_iff_eq.mpr c11
  have c11b1 : ((t437.length : Int) != t448) = false := bne_eq_false_iff_eq.mpr c11
  clear c11
  replace H := Option.bind_eq_some_iff.mp H
  obtain ⟨t449, A120, H⟩ := H
  replace H : (if t449 = (t437.length : Int) then ((journal_Extends.f l0 t434).bind fun t450 => (if t450 = true then ((journal_Trim.f k t434).bind fun t451 => ((examboardlaw49_equal.f k t451 t434).bind fun t454 => (if t454 = true then (if ((t439 == 0) != (t438 == (l0.length : Int))) = true then (none) else ((journal_Last.f k l0).bind fun bt455 => ((journal_Last.f k t434).bind fun bt457 => (if bt455.2 = t439 then (if bt457.2 = 0 then ((examboardlaw49_awake.f k).bind fun t459 => (some t459)) else (none)) else (none))))) else (none)))) else (none))) else (none)) = some r := H
  have A12 := am A120
  clear A120
  replace H := it_ H
  obtain ⟨c13, H⟩ := H
  have c13b0 : (t449 == (t437.length : Int)) = true := beq_iff_eq.mpr c13
  have c13b1 : (t449 != (t437.length : Int)) = false := bne_eq_false_iff_eq.mpr c13
  clear c13
  replace H := Option.bind_eq_some_iff.mp H
  obtain ⟨t450, A140, H⟩ := H
  replace H : (if t450 = true then ((journal_Trim.f k t434).bind fun t451 => ((examboardlaw49_equal.f k t451 t434).bind fun t454 => (if t454 = true then (if ((t439 == 0) != (t438 == (l0.length : Int))) = true then (none) else ((journal_Last.f k l0).bind fun bt455 => ((journal_Last.f k t434).bind fun bt457 => (if bt455.2 = t439 then (if bt457.2 = 0 then ((examboardlaw49_awake.f k).bind fun t459 => (some t459)) else (none)) else (none))))) else (none)))) else (none)) = some r := H
  have A14 := am A140
  clear A140
  by_cases c15 : t450 = true
  ·
   subst c15
   have H1 : ((journal_Trim.f k t434).bind fun t451 => ((examboardlaw49_equal.f k t451 t434).bind fun t454 => (if t454 = true then (if ((t439 == 0) != (t438 == (l0.length : Int))) = true then (none) else ((journal_Last.f k l0).bind fun bt455 => ((journal_Last.f k t434).bind fun bt457 => (if bt455.2 = t439 then (if bt457.2 = 0 then ((examboardlaw49_awake.f k).bind fun t459 => (some t459)) else (none)) else (none))))) else (none)))) = some r := by rw [if_pos rfl] at H; exact H
   clear H
   have H := H1
   clear H1
   replace H := Option.bind_eq_some_iff.mp H
   obtain ⟨t451, A160, H⟩ := H
   replace H : ((examboardlaw49_equal.f k t451 t434).bind fun t454 => (if t454 = true then (if ((t439 == 0) != (t438 == (l0.length : Int))) = true then (none) else ((journal_Last.f k l0).bind fun bt455 => ((journal_Last.f k t434).bind fun bt457 => (if bt455.2 = t439 then (if bt457.2 = 0 then ((examboardlaw49_awake.f k).bind fun t459 => (some t459)) else (none)) else (none))))) else (none))) = some r := H
   have A16 := am A160
   clear A160
   replace H := Option.bind_eq_some_iff.mp H
   obtain ⟨t454, A170, H⟩ := H
   replace H : (if t454 = true then (if ((t439 == 0) != (t438 == (l0.length : Int))) = true then (none) else ((journal_Last.f k l0).bind fun bt455 => ((journal_Last.f k t434).bind fun bt457 => (if bt455.2 = t439 then (if bt457.2 = 0 then ((examboardlaw49_awake.f k).bind fun t459 => (some t459)) else (none)) else (none))))) else (none)) = some r := H
   have A17 := am A170
   clear A170
   by_cases c18 : t454 = true
   ·
    subst c18
    have H1 : (if ((t439 == 0) != (t438 == (l0.length : Int))) = true then (none) else ((journal_Last.f k l0).bind fun bt455 => ((journal_Last.f k t434).bind fun bt457 => (if bt455.2 = t439 then (if bt457.2 = 0 then ((examboardlaw49_awake.f k).bind fun t459 => (some t459)) else (none)) else (none))))) = some r := by rw [if_pos rfl] at H; exact H
    clear H
    have H := H1
    clear H1
    replace H := ie_ H
    obtain ⟨c19, H⟩ := H
    have c19b0 : ((t439 == 0) != (t438 == (l0.length : Int))) = false := by simpa using c19
    (try (have c19b1 : decide ((t439 == 0) = (t438 == (l0.length : Int))) = true := by simpa using c19))
    (try (have c19b2 : ((t439 == 0) == (t438 == (l0.length : Int))) = true := by simpa using c19))
    clear c19
    replace H := Option.bind_eq_some_iff.mp H
    obtain ⟨⟨t455, t456⟩, A200, H⟩ := H
    replace H : ((journal_Last.f k t434).bind fun bt457 => (if t456 = t439 then (if bt457.2 = 0 then ((examboardlaw49_awake.f k).bind fun t459 => (some t459)) else (none)) else (none))) = some r := H
    have A20 := am A200
    clear A200
    replace H := Option.bind_eq_some_iff.mp H
    obtain ⟨⟨t457, t458⟩, A210, H⟩ := H
    replace H : (if t456 = t439 then (if t458 = 0 then ((examboardlaw49_awake.f k).bind fun t459 => (some t459)) else (none)) else (none)) = some r := H
    have A21 := am A210
    clear A210
    replace H := it_ H
    obtain ⟨c22, H⟩ := H
    have c22b0 : (t456 == t439) = true := beq_iff_eq.mpr c22
    have c22b1 : (t456 != t439) = false := bne_eq_false_iff_eq.mpr c22
    clear c22
    replace H := it_ H
    obtain ⟨c23, H⟩ := H
    have c23b0 : (t458 == 0) = true := beq_iff_eq.mpr c23
    have c23b1 : (t458 != 0) = false := bne_eq_false_iff_eq.mpr c23
    clear c23
    replace H := Option.bind_eq_some_iff.mp H
    obtain ⟨t459, A240, H⟩ := H
    replace H : (some t459) = some r := H
    have A24 := am A240
    clear A240
    obtain rfl := Option.some.inj H
    go_enter Tryd.func4, Tryd.ntmps4
    go_wp2_with (first | ((with_reducible refine gate_callee (f := 14) rfl ?_); refine goesL_ (some 15) rfl rfl Tryd.func14 (by kernel_rfl) rfl #[.slice A0 l0.length c0] rfl lz ?_; (with_reducible refine (journal_Trim.calls k _ _ l0 t434 _ ?side1 ?side2 A2.out).mono ?_); (case side1 => repeat (first | exact HR0.out | (with_reducible refine Kd.C_alloc ?_ _) | (with_reducible refine Kd.C_drewN ?_ _) | (with_reducible refine Kd.C_drew ?_))); (case side2 => exact HC0.out); rintro e w25 ⟨v435, rfl, ho0, hb⟩; refine ⟨_, rfl, ?_⟩; have HO436 := am (Kd.R_lower ho0 (below_size (hz HB.out))); replace HB := am (below_step (hz HB.out) hb); (try clear hb); (try clear hk); (try clear hi); (try clear ho0)) | ((with_reducible refine gate_callee (f := 11) rfl ?_); refine goesL_ (some 18) rfl rfl Tryd.func11 (by kernel_rfl) rfl #[.slice A0 l0.length c0] rfl lz ?_; (with_reducible refine (journal_Read.calls k _ _ l0 t437 t438 t439 _ ?sideG ?side1 ?side2 A3.out).mono ?_); (case sideG => exact gle HG_.out (hz HB.out)); (case side1 => exact cz (Kd.C_below HR0.out HB.out)); (case side2 => exact HC0.out); rintro e w26 ⟨v440, rfl, ho0, hb⟩; refine ⟨_, rfl, ?_⟩; replace HO436 := am (Kd.R_below (rz HO436.out) hb); have HO441 := am (Kd.R_lower ho0 (below_size (hz HB.out))); replace HB := am (below_step (hz HB.out) hb); (try clear hb); (try clear hk); (try clear hi); (try clear ho0); obtain ⟨Ao27, co27, eo27⟩ := Kd.R_slice HO436.out; subst eo27) | ((with_reducible refine gate_callee (f := 11) rfl ?_); refine goesL_ (some 24) rfl rfl Tryd.func11 (by kernel_rfl) rfl #[.slice Ao27 t434.length co27] rfl lz ?_; (with_reducible refine (journal_Read.calls k _ _ t434 t442 t443 t444 _ ?sideG ?side1 ?side2 A4.out).mono ?_); (case sideG => exact gle HG_.out (hz HB.out)); (case side1 => repeat (first | exact (Kd.R_reads' HO436.out).2.2 | (with_reducible refine Kd.C_alloc ?_ _) | (with_reducible refine Kd.C_drewN ?_ _) | (with_reducible refine Kd.C_drew ?_))); (case side2 => exact (Kd.R_reads' HO436.out).2.1); rintro e w28 ⟨v445, rfl, ho0, hb⟩; refine ⟨_, rfl, ?_⟩; replace HO436 := am (Kd.R_below (rz HO436.out) hb); have HO446 := am (Kd.R_lower (Kd.R_new' ho0 (Kd.R_lt (rz HO441.out))) (below_size (hz HB.out))); replace HO441 := am (Kd.R_elder' (rz HO441.out) (Kd.R_base ho0) hb); replace HB := am (below_step (hz HB.out) hb); (try clear hb); (try clear hk); (try clear hi); (try clear ho0); obtain ⟨Ao29, co29, eo29⟩ := Kd.R_slice HO441.out; subst eo29; obtain ⟨Ao30, co30, eo30⟩ := Kd.R_slice HO446.out; subst eo30) | (go_at_call 12; (with_reducible refine (examboardlaw49_same.calls k _ _ t437 _ _ t442 true _ ?side1 ?side2 ?side3 ?side4 A8.out).mono ?_); (case side1 => repeat (first | exact (Kd.R_reads' HO441.out).2.2 | (with_reducible refine Kd.C_alloc ?_ _) | (with_reducible refine Kd.C_drewN ?_ _) | (with_reducible refine Kd.C_drew ?_))); (case side2 => exact (Kd.R_reads' HO441.out).2.1); (case side3 => repeat (first | exact (Kd.R_reads' HO446.out).2.2 | (with_reducible refine Kd.C_alloc ?_ _) | (with_reducible refine Kd.C_drewN ?_ _) | (with_reducible refine Kd.C_drew ?_))); (case side4 => exact (Kd.R_reads' HO446.out).2.1); rintro e w31 ⟨rfl, hb⟩; replace HO436 := am (Kd.R_below (rz HO436.out) hb); replace HO441 := am (Kd.R_below (rz HO441.out) hb); replace HO446 := am (Kd.R_below (rz HO446.out) hb); replace HB := am (below_step (hz HB.out) hb); (try clear hb); (try clear hk); (try clear hi)) | (go_at_call 15; (with_reducible refine (journal_Count.calls k _ _ l0 t448 _ ?side1 ?side2 A10.out).mono ?_); (case side1 => exact cz (Kd.C_below HR0.out HB.out)); (case side2 => exact HC0.out); rintro e w32 ⟨rfl, hb⟩; replace HO436 := am (Kd.R_below (rz HO436.out) hb); replace HO441 := am (Kd.R_below (rz HO441.out) hb); replace HO446 := am (Kd.R_below (rz HO446.out) hb); replace HB := am (below_step (hz HB.out) hb); (try clear hb); (try clear hk); (try clear hi)) | (go_at_call 15; (with_reducible refine (journal_Count.calls k _ _ t434 t449 _ ?side1 ?side2 A12.out).mono ?_); (case side1 => repeat (first | exact (Kd.R_reads' HO436.out).2.2 | (with_reducible refine Kd.C_alloc ?_ _) | (with_reducible refine Kd.C_drewN ?_ _) | (with_reducible refine Kd.C_drew ?_))); (case side2 => exact (Kd.R_reads' HO436.out).2.1); rintro e w33 ⟨rfl, hb⟩; replace HO436 := am (Kd.R_below (rz HO436.out) hb); replace HO441 := am (Kd.R_below (rz HO441.out) hb); replace HO446 := am (Kd.R_below (rz HO446.out) hb); replace HB := am (below_step (hz HB.out) hb); (try clear hb); (try clear hk); (try clear hi)) | ((with_reducible refine gate_callee (f := 17) rfl ?_); refine goesL_ (some 63) rfl rfl Tryd.func17 (by kernel_rfl) rfl #[.slice A0 l0.length c0, .slice Ao27 t434.length co27] rfl lz ?_; (with_reducible refine (journal_Extends.calls _ _ l0 _ _ t434 true _ ?side1 ?side2 ?side3 ?side4 A14.out).mono ?_); (case side1 => exact cz (Kd.C_below HR0.out HB.out)); (case side2 => exact HC0.out); (case side3 => repeat (first | exact (Kd.R_reads' HO436.out).2.2 | (with_reducible refine Kd.C_alloc ?_ _) | (with_reducible refine Kd.C_drewN ?_ _) | (with_reducible refine Kd.C_drew ?_))); (case side4 => exact (Kd.R_reads' HO436.out).2.1); rintro e w' ⟨rfl, ⟨nd, rfl⟩⟩; refine ⟨_, rfl, ?_⟩) | (go_at_call 14; (with_reducible refine (journal_Trim.calls k _ _ t434 t451 _ ?side1 ?side2 A16.out).mono ?_); (case side1 => repeat (first | exact (Kd.R_reads' HO436.out).2.2 | (with_reducible refine Kd.C_alloc ?_ _) | (with_reducible refine Kd.C_drewN ?_ _) | (with_reducible refine Kd.C_drew ?_))); (case side2 => exact (Kd.R_reads' HO436.out).2.1); rintro e w34 ⟨v452, rfl, ho0, hb⟩; replace HO441 := am (Kd.R_below (rz HO441.out) hb); replace HO446 := am (Kd.R_below (rz HO446.out) hb); have HO453 := am (Kd.R_lower (Kd.R_new' ho0 (Kd.R_lt (rz HO436.out))) (below_size (hz HB.out))); replace HO436 := am (Kd.R_elder' (rz HO436.out) (Kd.R_base ho0) hb); replace HB := am (below_step (hz HB.out) hb); (try clear hb); (try clear hk); (try clear hi); (try clear ho0); obtain ⟨Ao35, co35, eo35⟩ := Kd.R_slice HO453.out; subst eo35) | (go_at_call 13; (with_reducible refine (examboardlaw49_equal.calls k _ _ t451 _ _ t434 true _ ?side1 ?side2 ?side3 ?side4 A17.out).mono ?_); (case side1 => repeat (first | exact (Kd.R_reads' HO453.out).2.2 | (with_reducible refine Kd.C_alloc ?_ _) | (with_reducible refine Kd.C_drewN ?_ _) | (with_reducible refine Kd.C_drew ?_))); (case side2 => exact (Kd.R_reads' HO453.out).2.1); (case side3 => repeat (first | exact (Kd.R_reads' HO436.out).2.2 | (with_reducible refine Kd.C_alloc ?_ _) | (with_reducible refine Kd.C_drewN ?_ _) | (with_reducible refine Kd.C_drew ?_))); (case side4 => exact (Kd.R_reads' HO436.out).2.1); rintro e w' ⟨rfl, ⟨nd, rfl⟩⟩) | ((with_reducible refine gate_callee (f := 18) rfl ?_); refine goesL_ (some 83) rfl rfl Tryd.func18 (by kernel_rfl) rfl #[.slice A0 l0.length c0] rfl lz ?_; (with_reducible refine (journal_Last.calls k _ _ l0 t455 t456 _ ?sideG ?side1 ?side2 A20.out).mono ?_); (case sideG => exact gle HG_.out (hz HB.out)); (case side1 => repeat (first | exact (Kd.C_below HR0.out (hz HB.out)) | (with_reducible refine Kd.C_alloc ?_ _) | (with_reducible refine Kd.C_drewN ?_ _) | (with_reducible refine Kd.C_drew ?_))); (case side2 => exact HC0.out); rintro e w36 ⟨rfl, hb⟩; refine ⟨_, rfl, ?_⟩; replace HO436 := am (Kd.R_below (rz HO436.out) hb); replace HO441 := am (Kd.R_below (rz HO441.out) hb); replace HO446 := am (Kd.R_below (rz HO446.out) hb); replace HO453 := am (Kd.R_below (rz HO453.out) hb); replace HB := am (below_step (hz HB.out) hb); (try clear hb); (try clear hk); (try clear hi)) | ((with_reducible refine gate_callee (f := 18) rfl ?_); refine goesL_ (some 88) rfl rfl Tryd.func18 (by kernel_rfl) rfl #[.slice Ao27 t434.length co27] rfl lz ?_; (with_reducible refine (journal_Last.calls k _ _ t434 t457 t458 _ ?sideG ?side1 ?side2 A21.out).mono ?_); (case sideG => exact gle HG_.out (hz HB.out)); (case side1 => repeat (first | exact (Kd.R_reads' HO436.out).2.2 | (with_reducible refine Kd.C_alloc ?_ _) | (with_reducible refine Kd.C_drewN ?_ _) | (with_reducible refine Kd.C_drew ?_))); (case side2 => exact (Kd.R_reads' HO436.out).2.1); rintro e w37 ⟨rfl, hb⟩; refine ⟨_, rfl, ?_⟩; replace HO436 := am (Kd.R_below (rz HO436.out) hb); replace HO441 := am (Kd.R_below (rz HO441.out) hb); replace HO446 := am (Kd.R_below (rz HO446.out) hb); replace HO453 := am (Kd.R_below (rz HO453.out) hb); replace HB := am (below_step (hz HB.out) hb); (try clear hb); (try clear hk); (try clear hi)) | (go_at_call 16; (with_reducible refine (examboardlaw49_awake.calls k  t459 _ ?sideG A24.out).mono ?_); (case sideG => exact gle HG_.out (hz HB.out)); rintro e w38 ⟨rfl, hb⟩; replace HO436 := am (Kd.R_below (rz HO436.out) hb); replace HO441 := am (Kd.R_below (rz HO441.out) hb); replace HO446 := am (Kd.R_below (rz HO446.out) hb); replace HO453 := am (Kd.R_below (rz HO453.out) hb); replace HB := am (below_step (hz HB.out) hb); (try clear hb); (try clear hk); (try clear hi)))
    go_ret
    exact ⟨ez, hz HB.out⟩
   ·
    replace c18 := Bool.eq_false_iff.mpr c18
    subst c18
    have H1 : (none) = some r := by rw [if_neg (show ¬ (false = true) by decide)] at H; exact H
    clear H
    have H := H1
    clear H1
    exact absurd H (by simp)
  ·
   replace c15 := Bool.eq_false_iff.mpr c15
   subst c15
   have H1 : (none) = some r := by rw [if_neg (show ¬ (false = true) by decide)] at H; exact H
   clear H
   have H := H1
   clear H1
   exact absurd H (by simp)
 ·
  replace c9 := Bool.eq_false_iff.mpr c9
  subst c9
  have H1 : (none) = some r := by rw [if_neg (show ¬ (false = true) by decide)] at H; exact H
  clear H
  have H := H1
  clear H1
  exact absurd H (by simp)

/-- THE ONE PURE STATEMENT of examboardlaw49_JournalTrim: yours. -/
def examboardlaw49_JournalTrim.Pure : Prop := ∀ (l0 : List Int), l0.length ≤ maxLen → l0.length * 1 ≤ 140737488351232 → (∀ x ∈ l0, (Lit.int .u8 x).wf = true) → ∃ k, examboardlaw49_JournalTrim.f k l0 = some true
theorem examboardlaw49_JournalTrim.walk (P : examboardlaw49_JournalTrim.Pure) (a0 : Option Addr) (len0 cap0 : Nat) (z0 : List Int) (w : World) (hG : GlE w) (w0 : (a0 = none ∧ len0 = 0 ∧ cap0 = 0 ∧ z0 = []) ∨ ∃ x, a0 = some x ∧ len0 ≤ cap0 ∧ cap0 ≤ maxLen ∧ z0.length = cap0 ∧ (∀ i, i < z0.length → w.cell? (x.add i) = some (.int .u8 (z0.getD i 0))) ∧ ∀ n ∈ z0, (Lit.int .u8 n).wf = true) (y0 : len0 * 1 ≤ 140737488351232) :
  Calls Tryd.prog 4 #[.slice a0 len0 cap0] w fun e w' => e = .returned (.bool true) ∧ Below w.heap.size w w' := by
 obtain ⟨l0, rfl, hr0, hm0, hw0, hc0⟩ := ReadsInt.ofRowC w0
 obtain ⟨k, h⟩ := P l0 hm0 y0 hw0
 refine (examboardlaw49_JournalTrim.calls k _ _ l0 true w hG (Kd.C_of_reads (d := (0 : Int)) (h1 := fun _ => rfl) hr0) hc0 h).mono ?_
 rintro e w' ⟨rfl, hd⟩
 exact ⟨rfl, hd⟩

end Go.Proofs.YteeggfnailpcpaaDoor.Q
