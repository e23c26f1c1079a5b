/- Made by wip/myprint.py of this session (it drives the kit's printer): what the calls of the Go functions come to, as plain Lean functions, and the row of a law over them; without conditions. -/
import Derived.Test.YteeggfnailpcpaaDoorQx0
import Derived.Test.YteeggfnailpcpaaDoorQx10
import Derived.Test.YteeggfnailpcpaaDoorQx12
import Derived.Test.YteeggfnailpcpaaDoorQx13
import Derived.Test.YteeggfnailpcpaaDoorQx16
namespace Go.Proofs.YteeggfnailpcpaaDoor.Q
open Go.RowKit Go.Proofs.YteeggfnailpcpaaDoorW.PrintWords Go.Proofs.YteeggfnailpcpaaDoorW.PrintLast Go.Proofs.YteeggfnailpcpaaDoorW.PrintMore
attribute [local go_sem] max2_int min2_int max_two min_two max_three min_three max_four min_four   -- for this text's walks alone
set_option linter.unusedVariables false
set_option linter.unusedSimpArgs false

/-! ### examboardlaw49_JournalReads: function 8 -/
def examboardlaw49_JournalReads.f (k : Nat) (l0 : List Int) : Option (Bool) := (journal_Read.f k l0).bind fun bt788 => ((examboardref49_Read.f k l0).bind fun bt793 => ((journal_Last.f k l0).bind fun bt798 => ((examboardref49_Last.f k l0).bind fun bt800 => ((examboardlaw49_same.f k bt788.1 bt793.1).bind fun t802 => (if t802 = true then (if bt788.2.1 = bt793.2.1 then (if bt788.2.2 = bt793.2.2 then (if bt798.1 = bt800.1 then (if bt798.2 = bt800.2 then ((journal_Trim.f k l0).bind fun t803 => ((examboardref49_Trim.f k l0).bind fun t806 => ((examboardlaw49_equal.f k t803 t806).bind fun t809 => (if t809 = true then ((journal_Count.f k l0).bind fun t810 => ((examboardref49_Count.f k l0).bind fun t811 => (if t810 = t811 then ((examboardlaw49_awake.f k).bind fun t812 => (some t812)) else (none)))) else (none))))) else (none)) else (none)) else (none)) else (none)) else (none))))))
theorem examboardlaw49_JournalReads.mono : ∀ a0 k, LeO (examboardlaw49_JournalReads.f k a0) (examboardlaw49_JournalReads.f (k + 1) a0) := by
 intro a0 k
 unfold examboardlaw49_JournalReads.f
 repeat' first
   | (with_reducible exact examboardlaw49_awake.mono _)
   | (with_reducible exact examboardlaw49_equal.mono _ _ _)
   | (with_reducible exact examboardlaw49_same.mono _ _ _)
   | (with_reducible exact examboardref49_Count.mono _ _)
   | (with_reducible exact examboardref49_Last.mono _ _)
   | (with_reducible exact examboardref49_Read.mono _ _)
   | (with_reducible exact examboardref49_Trim.mono _ _)
   | (with_reducible exact journal_Count.mono _ _)
   | (with_reducible exact journal_Last.mono _ _)
   | (with_reducible exact journal_Read.mono _ _)
   | (with_reducible exact journal_Trim.mono _ _)
   | (with_reducible exact LeO.refl _)
   | (with_reducible exact LeO.none _)
   | (with_reducible refine LeO.ite ?_ ?_)
   | (with_reducible refine LeO.bind ?_ (fun _ => ?_))
   | exact examboardlaw49_awake.mono _
   | exact examboardlaw49_equal.mono _ _ _
   | exact examboardlaw49_same.mono _ _ _
   | exact examboardref49_Count.mono _ _
   | exact examboardref49_Last.mono _ _
   | exact examboardref49_Read.mono _ _
   | exact examboardref49_Trim.mono _ _
   | exact journal_Count.mono _ _
   | exact journal_Last.mono _ _
   | exact journal_Read.mono _ _
   | exact journal_Trim.mono _ _
   | exact LeO.none _
   | refine LeO.ite ?_ ?_
   | refine LeO.bind ?_ (fun _ => ?_)
set_option maxHeartbeats 8000000 in
set_option maxRecDepth 100000 in
theorem examboardlaw49_JournalReads.calls (k : Nat) (A0 : Option Addr) (c0 : Nat) (l0 : List Int) (r : Bool) (w : World) (hG : GlE w) (hr0 : Kd.C (Kd.int .u8) w A0 l0.length l0) (hc0 : l0.length ≤ c0) (h : examboardlaw49_JournalReads.f k l0 = some r) :
  Calls Tryd.prog 8 #[.slice A0 l0.length c0] w fun e w' => e = .returned (.bool r) ∧ Below w.heap.size w w' := by
 have HR0 := am hr0
 have HC0 := am hc0
 clear hr0 hc0
 have HG_ := am hG
 clear hG
 have HB := am (Below.refl w.heap.size w)
 have H : ((journal_Read.f k l0).bind fun bt788 => ((examboardref49_Read.f k l0).bind fun bt793 => ((journal_Last.f k l0).bind fun bt798 => ((examboardref49_Last.f k l0).bind fun bt800 => ((examboardlaw49_same.f k bt788.1 bt793.1).bind fun t802 => (if t802 = true then (if bt788.2.1 = bt793.2.1 then (if bt788.2.2 = bt793.2.2 then (if bt798.1 = bt800.1 then (if bt798.2 = bt800.2 then ((journal_Trim.f k l0).bind fun t803 => ((examboardref49_Trim.f k l0).bind fun t806 => ((examboardlaw49_equal.f k t803 t806).bind fun t809 => (if t809 = true then ((journal_Count.f k l0).bind fun t810 => ((examboardref49_Count.f k l0).bind fun t811 => (if t810 = t811 then ((examboardlaw49_awake.f k).bind fun t812 => (some t812)) else (none)))) else (none))))) else (none)) else (none)) else (none)) else (none)) else (none))))))) = some r := h
 clear h
 replace H := Option.bind_eq_some_iff.mp H
 obtain ⟨⟨t788, t789, t790⟩, A20, H⟩ := H
 replace H : ((examboardref49_Read.f k l0).bind fun bt793 => ((journal_Last.f k l0).bind fun bt798 => ((examboardref49_Last.f k l0).bind fun bt800 => ((examboardlaw49_same.f k t788 bt793.1).bind fun t802 => (if t802 = true then (if t789 = bt793.2.1 then (if t790 = bt793.2.2 then (if bt798.1 = bt800.1 then (if bt798.2 = bt800.2 then ((journal_Trim.f k l0).bind fun t803 => ((examboardref49_Trim.f k l0).bind fun t806 => ((examboardlaw49_equal.f k t803 t806).bind fun t809 => (if t809 = true then ((journal_Count.f k l0).bind fun t810 => ((examboardref49_Count.f k l0).bind fun t811 => (if t810 = t811 then ((examboardlaw49_awake.f k).bind fun t812 => (some t812)) else (none)))) else (none))))) else (none)) else (none)) else (none)) else (none)) else (none)))))) = some r := H
 have A2 := am A20
 clear A20
 replace H := Option.bind_eq_some_iff.mp H
 obtain ⟨⟨t793, t796, t797⟩, A30, H⟩ := H
 replace H : ((journal_Last.f k l0).bind fun bt798 => ((examboardref49_Last.f k l0).bind fun bt800 => ((examboardlaw49_same.f k t788 t793).bind fun t802 => (if t802 = true then (if t789 = t796 then (if t790 = t797 then (if bt798.1 = bt800.1 then (if bt798.2 = bt800.2 then ((journal_Trim.f k l0).bind fun t803 => ((examboardref49_Trim.f k l0).bind fun t806 => ((examboardlaw49_equal.f k t803 t806).bind fun t809 => (if t809 = true then ((journal_Count.f k l0).bind fun t810 => ((examboardref49_Count.f k l0).bind fun t811 => (if t810 = t811 then ((examboardlaw49_awake.f k).bind fun t812 => (some t812)) else (none)))) else (none))))) else (none)) else (none)) else (none)) else (none)) else (none))))) = some r := H
 have A3 := am A30
 clear A30
 replace H := Option.bind_eq_some_iff.mp H
 obtain ⟨⟨t798, t799⟩, A40, H⟩ := H
 replace H : ((examboardref49_Last.f k l0).bind fun bt800 => ((examboardlaw49_same.f k t788 t793).bind fun t802 => (if t802 = true then (if t789 = t796 then (if t790 = t797 then (if t798 = bt800.1 then (if t799 = bt800.2 then ((journal_Trim.f k l0).bind fun t803 => ((examboardref49_Trim.f k l0).bind fun t806 => ((examboardlaw49_equal.f k t803 t806).bind fun t809 => (if t809 = true then ((journal_Count.f k l0).bind fun t810 => ((examboardref49_Count.f k l0).bind fun t811 => (if t810 = t811 then ((examboardlaw49_awake.f k).bind fun t812 => (some t812)) else (none)))) else (none))))) else (none)) else (none)) else (none)) else (none)) else (none)))) = some r := H
 have A4 := am A40
 clear A40
 replace H := Option.bind_eq_some_iff.mp H
 obtain ⟨⟨t800, t801⟩, A50, H⟩ := H
 replace H : ((examboardlaw49_same.f k t788 t793).bind fun t802 => (if t802 = true then (if t789 = t796 then (if t790 = t797 then (if t798 = t800 then (if t799 = t801 then ((journal_Trim.f k l0).bind fun t803 => ((examboardref49_Trim.f k l0).bind fun t806 => ((examboardlaw49_equal.f k t803 t806).bind fun t809 => (if t809 = true then ((journal_Count.f k l0).bind fun t810 => ((examboardref49_Count.f k l0).bind fun t811 => (if t810 = t811 then ((examboardlaw49_awake.f k).bind fun t812 => (some t812)) else (none)))) else (none))))) else (none)) else (none)) else (none)) else (none)) else (none))) = some r := H
 have A5 := am A50
 clear A50
 replace H := Option.bind_eq_some_iff.mp H
 obtain ⟨t802, A60, H⟩ := H
 replace H : (if t802 = true then (if t789 = t796 then (if t790 = t797 then (if t798 = t800 then (if t799 = t801 then ((journal_Trim.f k l0).bind fun t803 => ((examboardref49_Trim.f k l0).bind fun t806 => ((examboardlaw49_equal.f k t803 t806).bind fun t809 => (if t809 = true then ((journal_Count.f k l0).bind fun t810 => ((examboardref49_Count.f k l0).bind fun t811 => (if t810 = t811 then ((examboardlaw49_awake.f k).bind fun t812 => (some t812)) else (none)))) else (none))))) else (none)) else (none)) else (none)) else (none)) else (none)) = some r := H
 have A6 := am A60
 clear A60
 by_cases c7 : t802 = true
 ·
  subst c7
  have H1 : (if t789 = t796 then (if t790 = t797 then (if t798 = t800 then (if t799 = t801 then ((journal_Trim.f k l0).bind fun t803 => ((examboardref49_Trim.f k l0).bind fun t806 => ((examboardlaw49_equal.f k t803 t806).bind fun t809 => (if t809 = true then ((journal_Count.f k l0).bind fun t810 => ((examboardref49_Count.f k l0).bind fun t811 => (if t810 = t811 then ((examboardlaw49_awake.f k).bind fun t812 => (some t812)) else (none)))) else (none))))) else (none)) else (none)) else (none)) else (none)) = some r := by rw [if_pos rfl] at H; exact H
  clear H
  have H := H1
  clear H1
  replace H := it_ H
  obtain ⟨c8, H⟩ := H
  have c8b0 : (t789 == t796) = true := beq_iff_eq.mpr c8
  have c8b1 : (t789 != t796) = false := bne_eq_false_iff_eq.mpr c8
  clear c8
  replace H := it_ H
  obtain ⟨c9, H⟩ := H
  have c9b0 : (t790 == t797) = true := beq_iff_eq.mpr c9
  have c9b1 : (t790 != t797) = false := bne_eq_false_iff_eq.mpr c9
  clear c9
  replace H := it_ H
  obtain ⟨c10, H⟩ := H
  have c10b0 : (t798 == t800) = true := beq_iff_eq.mpr c10
  have c10b1 : (t798 != t800) = false := bne_eq_false_iff_eq.mpr c10
  clear c10
  replace H := it_ H
  obtain ⟨c11, H⟩ := H
  have c11b0 : (t799 == t801) = true := beq_iff_eq.mpr c11
  have c11b1 : (t799 != t801) = false := bne_eq_false_iff_eq.mpr c11
  clear c11
  replace H := Option.bind_eq_some_iff.mp H
  obtain ⟨t803, A120, H⟩ := H
  replace H : ((examboardref49_Trim.f k l0).bind fun t806 => ((examboardlaw49_equal.f k t803 t806).bind fun t809 => (if t809 = true then ((journal_Count.f k l0).bind fun t810 => ((examboardref49_Count.f k l0).bind fun t811 => (if t810 = t811 then ((examboardlaw49_awake.f k).bind fun t812 => (some t812)) else (none)))) else (none)))) = some r := H
  have A12 := am A120
  clear A120
  replace H := Option.bind_eq_some_iff.mp H
  obtain ⟨t806, A130, H⟩ := H
  replace H : ((examboardlaw49_equal.f k t803 t806).bind fun t809 => (if t809 = true then ((journal_Count.f k l0).bind fun t810 => ((examboardref49_Count.f k l0).bind fun t811 => (if t810 = t811 then ((examboardlaw49_awake.f k).bind fun t812 => (some t812)) else (none)))) else (none))) = some r := H
  have A13 := am A130
  clear A130
  replace H := Option.bind_eq_some_iff.mp H
  obtain ⟨t809, A140, H⟩ := H
  replace H : (if t809 = true then ((journal_Count.f k l0).bind fun t810 => ((examboardref49_Count.f k l0).bind fun t811 => (if t810 = t811 then ((examboardlaw49_awake.f k).bind fun t812 => (some t812)) else (none)))) else (none)) = some r := H
  have A14 := am A140
  clear A140
  by_cases c15 : t809 = true
  ·
   subst c15
   have H1 : ((journal_Count.f k l0).bind fun t810 => ((examboardref49_Count.f k l0).bind fun t811 => (if t810 = t811 then ((examboardlaw49_awake.f k).bind fun t812 => (some t812)) else (none)))) = some r := by rw [if_pos rfl] at H; exact H
   clear H
   have H := H1
   clear H1
   replace H := Option.bind_eq_some_iff.mp H
   obtain ⟨t810, A160, H⟩ := H
   replace H : ((examboardref49_Count.f k l0).bind fun t811 => (if t810 = t811 then ((examboardlaw49_awake.f k).bind fun t812 => (some t812)) else (none))) = some r := H
   have A16 := am A160
   clear A160
   replace H := Option.bind_eq_some_iff.mp H
   obtain ⟨t811, A170, H⟩ := H
   replace H : (if t810 = t811 then ((examboardlaw49_awake.f k).bind fun t812 => (some t812)) else (none)) = some r := H
   have A17 := am A170
   clear A170
   replace H := it_ H
   obtain ⟨c18, H⟩ := H
   have c18b0 : (t810 == t811) = true := beq_iff_eq.mpr c18
   have c18b1 : (t810 != t811) = false := bne_eq_false_iff_eq.mpr c18
   clear c18
   replace H := Option.bind_eq_some_iff.mp H
   obtain ⟨t812, A190, H⟩ := H
   replace H : (some t812) = some r := H
   have A19 := am A190
   clear A190
   obtain rfl := Option.some.inj H
   go_enter Tryd.func8, Tryd.ntmps8
   go_wp2_with (first | ((with_reducible refine gate_callee (f := 11) rfl ?_); refine goesL_ (some 15) rfl rfl Tryd.func11 (by kernel_rfl) rfl #[.slice A0 l0.length c0] rfl lz ?_; (with_reducible refine (journal_Read.calls k _ _ l0 t788 t789 t790 _ ?sideG ?side1 ?side2 A2.out).mono ?_); (case sideG => exact gle HG_.out (hz HB.out)); (case side1 => repeat (first | exact HR0.out | (with_reducible refine Kd.C_alloc ?_ _) | (with_reducible refine Kd.C_drewN ?_ _) | (with_reducible refine Kd.C_drew ?_))); (case side2 => exact HC0.out); rintro e w20 ⟨v791, rfl, ho0, hb⟩; refine ⟨_, rfl, ?_⟩; have HO792 := am (Kd.N_lower (Kd.N_mono (ok' := fun k_ => True) (Kd.R_N (Kd.R_bound ho0)) (fun k_ hk_ => trivial)) (below_size (hz HB.out))); replace HB := am (below_step (hz HB.out) hb); (try clear hb); (try clear hk); (try clear hi); (try clear ho0)) | ((with_reducible refine gate_callee (f := 26) rfl ?_); refine goesL_ (some 21) rfl rfl Tryd.func26 (by kernel_rfl) rfl #[.slice A0 l0.length c0] rfl lz ?_; (with_reducible refine (examboardref49_Read.calls k _ _ l0 t793 t796 t797 _ ?side1 ?side2 A3.out).mono ?_); (case side1 => exact cz (Kd.C_below HR0.out HB.out)); (case side2 => exact HC0.out); rintro e w21 ⟨v794, rfl, ho0, hb⟩; refine ⟨_, rfl, ?_⟩; have HO795 := am (Kd.N_lower (Kd.N_mono (ok' := fun k_ => some k_ ≠ (v791 : Value).ownBlock) ho0 (fun k_ hk_ => (Kd.fresh' (Kd.N_lt (nz HO792.out)) k_ hk_))) (below_size (hz HB.out))); replace HO792 := am (Kd.N_elder' (nz HO792.out) (Kd.N_base ho0) hb); replace HB := am (below_step (hz HB.out) hb); (try clear hb); (try clear hk); (try clear hi); (try clear ho0)) | ((with_reducible refine gate_callee (f := 18) rfl ?_); refine goesL_ (some 27) rfl rfl Tryd.func18 (by kernel_rfl) rfl #[.slice A0 l0.length c0] rfl lz ?_; (with_reducible refine (journal_Last.calls k _ _ l0 t798 t799 _ ?sideG ?side1 ?side2 A4.out).mono ?_); (case sideG => exact gle HG_.out (hz HB.out)); (case side1 => exact cz (Kd.C_below HR0.out HB.out)); (case side2 => exact HC0.out); rintro e w22 ⟨rfl, hb⟩; refine ⟨_, rfl, ?_⟩; replace HO792 := am (Kd.N_below (nz HO792.out) hb); replace HO795 := am (Kd.N_below (nz HO795.out) hb); replace HB := am (below_step (hz HB.out) hb); (try clear hb); (try clear hk); (try clear hi)) | ((with_reducible refine gate_callee (f := 27) rfl ?_); refine goesL_ (some 32) rfl rfl Tryd.func27 (by kernel_rfl) rfl #[.slice A0 l0.length c0] rfl lz ?_; (with_reducible refine (examboardref49_Last.calls k _ _ l0 t800 t801 _ ?side1 ?side2 A5.out).mono ?_); (case side1 => exact cz (Kd.C_below HR0.out HB.out)); (case side2 => exact HC0.out); rintro e w23 ⟨rfl, hb⟩; refine ⟨_, rfl, ?_⟩; replace HO792 := am (Kd.N_below (nz HO792.out) hb); replace HO795 := am (Kd.N_below (nz HO795.out) hb); replace HB := am (below_step (hz HB.out) hb); (try clear hb); (try clear hk); (try clear hi); obtain ⟨Ao24, co24, eo24⟩ := Kd.N_slice HO792.out; subst eo24; obtain ⟨Ao25, co25, eo25⟩ := Kd.N_slice HO795.out; subst eo25) | ((with_reducible refine gate_callee (f := 12) rfl ?_); refine goesL_ (some 37) rfl rfl Tryd.func12 (by kernel_rfl) rfl #[.slice Ao24 t788.length co24, .slice Ao25 t793.length co25] rfl lz ?_; (with_reducible refine (examboardlaw49_same.calls k _ _ t788 _ _ t793 true _ ?side1 ?side2 ?side3 ?side4 A6.out).mono ?_); (case side1 => repeat (first | exact (Kd.N_reads' HO792.out).2.2 | (with_reducible refine Kd.C_alloc ?_ _) | (with_reducible refine Kd.C_drewN ?_ _) | (with_reducible refine Kd.C_drew ?_))); (case side2 => exact (Kd.N_reads' HO792.out).2.1); (case side3 => repeat (first | exact (Kd.N_reads' HO795.out).2.2 | (with_reducible refine Kd.C_alloc ?_ _) | (with_reducible refine Kd.C_drewN ?_ _) | (with_reducible refine Kd.C_drew ?_))); (case side4 => exact (Kd.N_reads' HO795.out).2.1); rintro e w26 ⟨rfl, hb⟩; refine ⟨_, rfl, ?_⟩; replace HO792 := am (Kd.N_below (nz HO792.out) hb); replace HO795 := am (Kd.N_below (nz HO795.out) hb); replace HB := am (below_step (hz HB.out) hb); (try clear hb); (try clear hk); (try clear hi)) | (go_at_call 14; (with_reducible refine (journal_Trim.calls k _ _ l0 t803 _ ?side1 ?side2 A12.out).mono ?_); (case side1 => exact cz (Kd.C_below HR0.out HB.out)); (case side2 => exact HC0.out); rintro e w27 ⟨v804, rfl, ho0, hb⟩; replace HO792 := am (Kd.N_elder' (nz HO792.out) (Kd.R_base ho0) hb); replace HO795 := am (Kd.N_elder' (nz HO795.out) (Kd.R_base ho0) hb); have HO805 := am (Kd.R_lower ho0 (below_size (hz HB.out))); replace HB := am (below_step (hz HB.out) hb); (try clear hb); (try clear hk); (try clear hi); (try clear ho0)) | (go_at_call 28; (with_reducible refine (examboardref49_Trim.calls k _ _ l0 t806 _ ?side1 ?side2 A13.out).mono ?_); (case side1 => exact cz (Kd.C_below HR0.out HB.out)); (case side2 => exact HC0.out); rintro e w28 ⟨v807, rfl, ho0, hb⟩; replace HO792 := am (Kd.N_elder' (nz HO792.out) (Kd.R_base ho0) hb); replace HO795 := am (Kd.N_elder' (nz HO795.out) (Kd.R_base ho0) hb); have HO808 := am (Kd.R_lower (Kd.R_new' ho0 (Kd.R_lt (rz HO805.out))) (below_size (hz HB.out))); replace HO805 := am (Kd.R_elder' (rz HO805.out) (Kd.R_base ho0) hb); replace HB := am (below_step (hz HB.out) hb); (try clear hb); (try clear hk); (try clear hi); (try clear ho0); obtain ⟨Ao29, co29, eo29⟩ := Kd.R_slice HO805.out; subst eo29; obtain ⟨Ao30, co30, eo30⟩ := Kd.R_slice HO808.out; subst eo30) | (go_at_call 13; (with_reducible refine (examboardlaw49_equal.calls k _ _ t803 _ _ t806 true _ ?side1 ?side2 ?side3 ?side4 A14.out).mono ?_); (case side1 => repeat (first | exact (Kd.R_reads' HO805.out).2.2 | (with_reducible refine Kd.C_alloc ?_ _) | (with_reducible refine Kd.C_drewN ?_ _) | (with_reducible refine Kd.C_drew ?_))); (case side2 => exact (Kd.R_reads' HO805.out).2.1); (case side3 => repeat (first | exact (Kd.R_reads' HO808.out).2.2 | (with_reducible refine Kd.C_alloc ?_ _) | (with_reducible refine Kd.C_drewN ?_ _) | (with_reducible refine Kd.C_drew ?_))); (case side4 => exact (Kd.R_reads' HO808.out).2.1); rintro e w' ⟨rfl, ⟨nd, rfl⟩⟩) | (go_at_call 15; (with_reducible refine (journal_Count.calls k _ _ l0 t810 _ ?side1 ?side2 A16.out).mono ?_); (case side1 => repeat (first | exact (Kd.C_below HR0.out (hz HB.out)) | (with_reducible refine Kd.C_alloc ?_ _) | (with_reducible refine Kd.C_drewN ?_ _) | (with_reducible refine Kd.C_drew ?_))); (case side2 => exact HC0.out); rintro e w31 ⟨rfl, hb⟩; replace HO792 := am (Kd.N_below (nz HO792.out) hb); replace HO795 := am (Kd.N_below (nz HO795.out) hb); replace HO805 := am (Kd.R_below (rz HO805.out) hb); replace HO808 := am (Kd.R_below (rz HO808.out) hb); replace HB := am (below_step (hz HB.out) hb); (try clear hb); (try clear hk); (try clear hi)) | (go_at_call 29; (with_reducible refine (examboardref49_Count.calls k _ _ l0 t811 _ ?side1 ?side2 A17.out).mono ?_); (case side1 => exact cz (Kd.C_below HR0.out HB.out)); (case side2 => exact HC0.out); rintro e w32 ⟨rfl, hb⟩; replace HO792 := am (Kd.N_below (nz HO792.out) hb); replace HO795 := am (Kd.N_below (nz HO795.out) hb); replace HO805 := am (Kd.R_below (rz HO805.out) hb); replace HO808 := am (Kd.R_below (rz HO808.out) hb); replace HB := am (below_step (hz HB.out) hb); (try clear hb); (try clear hk); (try clear hi)) | (go_at_call 16; (with_reducible refine (examboardlaw49_awake.calls k  t812 _ ?sideG A19.out).mono ?_); (case sideG => exact gle HG_.out (hz HB.out)); rintro e w33 ⟨rfl, hb⟩; replace HO792 := am (Kd.N_below (nz HO792.out) hb); replace HO795 := am (Kd.N_below (nz HO795.out) hb); replace HO805 := am (Kd.R_below (rz HO805.out) hb); replace HO808 := am (Kd.R_below (rz HO808.out) hb); replace HB := am (below_step (hz HB.out) hb); (try clear hb); (try clear hk); (try clear hi)))
   go_ret
   exact ⟨ez, hz HB.out⟩
  ·
   replace c15 := Bool.eq_false_iff.mpr c15
   subst c15
   have H1 : (none) = some r := by rw [if_neg (show ¬ (false = true) by decide)] at H; exact H
   clear H
   have H := H1
   clear H1
   exact absurd H (by simp)
 ·
  replace c7 := Bool.eq_false_iff.mpr c7
  subst c7
  have H1 : (none) = some r := by rw [if_neg (show ¬ (false = true) by decide)] at H; exact H
  clear H
  have H := H1
  clear H1
  exact absurd H (by simp)

/-- THE ONE PURE STATEMENT of examboardlaw49_JournalReads: yours. -/
def examboardlaw49_JournalReads.Pure : Prop := ∀ (l0 : List Int), l0.length ≤ maxLen → l0.length * 1 ≤ 140737488351232 → (∀ x ∈ l0, (Lit.int .u8 x).wf = true) → ∃ k, examboardlaw49_JournalReads.f k l0 = some true
theorem examboardlaw49_JournalReads.walk (P : examboardlaw49_JournalReads.Pure) (a0 : Option Addr) (len0 cap0 : Nat) (z0 : List Int) (w : World) (hG : GlE w) (w0 : (a0 = none ∧ len0 = 0 ∧ cap0 = 0 ∧ z0 = []) ∨ ∃ x, a0 = some x ∧ len0 ≤ cap0 ∧ cap0 ≤ maxLen ∧ z0.length = cap0 ∧ (∀ i, i < z0.length → w.cell? (x.add i) = some (.int .u8 (z0.getD i 0))) ∧ ∀ n ∈ z0, (Lit.int .u8 n).wf = true) (y0 : len0 * 1 ≤ 140737488351232) :
  Calls Tryd.prog 8 #[.slice a0 len0 cap0] w fun e w' => e = .returned (.bool true) ∧ Below w.heap.size w w' := by
 obtain ⟨l0, rfl, hr0, hm0, hw0, hc0⟩ := ReadsInt.ofRowC w0
 obtain ⟨k, h⟩ := P l0 hm0 y0 hw0
 refine (examboardlaw49_JournalReads.calls k _ _ l0 true w hG (Kd.C_of_reads (d := (0 : Int)) (h1 := fun _ => rfl) hr0) hc0 h).mono ?_
 rintro e w' ⟨rfl, hd⟩
 exact ⟨rfl, hd⟩

end Go.Proofs.YteeggfnailpcpaaDoor.Q
