/- Made by wip/myprint.py of this session (it drives the kit's printer): what the calls of the Go functions come to, as plain Lean functions, and the row of a law over them; without conditions. -/
import Derived.Test.YteeggfnailpcpaaDoorQx0
import Derived.Test.YteeggfnailpcpaaDoorQx1
import Derived.Test.YteeggfnailpcpaaDoorQx9
import Derived.Test.YteeggfnailpcpaaDoorQx10
import Derived.Test.YteeggfnailpcpaaDoorQx16
namespace Go.Proofs.YteeggfnailpcpaaDoor.Q
open Go.RowKit Go.Proofs.YteeggfnailpcpaaDoorW.PrintWords Go.Proofs.YteeggfnailpcpaaDoorW.PrintLast Go.Proofs.YteeggfnailpcpaaDoorW.PrintMore
attribute [local go_sem] max2_int min2_int max_two min_two max_three min_three max_four min_four   -- for this text's walks alone
set_option linter.unusedVariables false
set_option linter.unusedSimpArgs false

/-! ### examboardlaw49_JournalAppends: function 5 -/
def examboardlaw49_JournalAppends.f (k : Nat) (l0 : List Int) (a1_0 : Int) (a1_1 : Int) (a1_2 : Int) (a1_3 : ByteArray) (l1_4 : List (S43)) (l2 : List Int) : Option (Bool) := (journal_Append.f k l0 a1_0 a1_1 a1_2 a1_3 l1_4).bind fun bt632 => ((examboardref49_Append.f k l0 a1_0 a1_1 a1_2 a1_3 l1_4).bind fun bt636 => ((examboardlaw49_equal.f k bt632.1 bt636.1).bind fun t640 => (if t640 = true then (if bt632.2 = bt636.2 then ((journal_Extends.f l0 l2).bind fun t641 => ((examboardref49_Extends.f k l0 l2).bind fun t642 => (if (t641 == t642) = true then ((examboardlaw49_awake.f k).bind fun t643 => (some t643)) else (none)))) else (none)) else (none))))
theorem examboardlaw49_JournalAppends.mono : ∀ a0 a1 a2 a3 a4 a5 a6 k, LeO (examboardlaw49_JournalAppends.f k a0 a1 a2 a3 a4 a5 a6) (examboardlaw49_JournalAppends.f (k + 1) a0 a1 a2 a3 a4 a5 a6) := by
 intro a0 a1 a2 a3 a4 a5 a6 k
 unfold examboardlaw49_JournalAppends.f
 repeat' first
   | (with_reducible exact examboardlaw49_awake.mono _)
   | (with_reducible exact examboardlaw49_equal.mono _ _ _)
   | (with_reducible exact examboardref49_Append.mono _ _ _ _ _ _ _)
   | (with_reducible exact examboardref49_Extends.mono _ _ _)
   | (with_reducible exact journal_Append.mono _ _ _ _ _ _ _)
   | (with_reducible exact LeO.refl _)
   | (with_reducible exact LeO.none _)
   | (with_reducible refine LeO.ite ?_ ?_)
   | (with_reducible refine LeO.bind ?_ (fun _ => ?_))
   | exact examboardlaw49_awake.mono _
   | exact examboardlaw49_equal.mono _ _ _
   | exact examboardref49_Append.mono _ _ _ _ _ _ _
   | exact examboardref49_Extends.mono _ _ _
   | exact journal_Append.mono _ _ _ _ _ _ _
   | exact LeO.none _
   | refine LeO.ite ?_ ?_
   | refine LeO.bind ?_ (fun _ => ?_)
set_option maxHeartbeats 8000000 in
set_option maxRecDepth 100000 in
theorem examboardlaw49_JournalAppends.calls (k : Nat) (A0 : Option Addr) (c0 : Nat) (l0 : List Int) (a1_0 : Int) (a1_1 : Int) (a1_2 : Int) (a1_3 : ByteArray) (A1_4 : Option Addr) (c1_4 : Nat) (l1_4 : List (S43)) (A2 : Option Addr) (c2 : Nat) (l2 : List Int) (r : Bool) (w : World) (hG : GlE w) (hr0 : Kd.C (Kd.int .u8) w A0 l0.length l0) (hc0 : l0.length ≤ c0) (hr1_4 : Kd.C k43 w A1_4 l1_4.length l1_4) (hc1_4 : l1_4.length ≤ c1_4) (hr2 : Kd.C (Kd.int .u8) w A2 l2.length l2) (hc2 : l2.length ≤ c2) (h : examboardlaw49_JournalAppends.f k l0 a1_0 a1_1 a1_2 a1_3 l1_4 l2 = some r) :
  Calls Tryd.prog 5 #[.slice A0 l0.length c0, .agg #[.int .i64 a1_0, .int .i64 a1_1, .int .i64 a1_2, .string a1_3, .slice A1_4 l1_4.length c1_4], .slice A2 l2.length c2] w fun e w' => e = .returned (.bool r) ∧ Below w.heap.size w w' := by
 have hu43 := Tryd.underlying43
 have HR0 := am hr0
 have HC0 := am hc0
 clear hr0 hc0
 have HR1_4 := am hr1_4
 have HC1_4 := am hc1_4
 clear hr1_4 hc1_4
 have HR2 := am hr2
 have HC2 := am hc2
 clear hr2 hc2
 have HG_ := am hG
 clear hG
 have HB := am (Below.refl w.heap.size w)
 have H : ((journal_Append.f k l0 a1_0 a1_1 a1_2 a1_3 l1_4).bind fun bt632 => ((examboardref49_Append.f k l0 a1_0 a1_1 a1_2 a1_3 l1_4).bind fun bt636 => ((examboardlaw49_equal.f k bt632.1 bt636.1).bind fun t640 => (if t640 = true then (if bt632.2 = bt636.2 then ((journal_Extends.f l0 l2).bind fun t641 => ((examboardref49_Extends.f k l0 l2).bind fun t642 => (if (t641 == t642) = true then ((examboardlaw49_awake.f k).bind fun t643 => (some t643)) else (none)))) else (none)) else (none))))) = some r := h
 clear h
 replace H := Option.bind_eq_some_iff.mp H
 obtain ⟨⟨t632, t635⟩, A40, H⟩ := H
 try dsimp only at H
 have A4 := am A40
 clear A40
 replace H := Option.bind_eq_some_iff.mp H
 obtain ⟨⟨t636, t639⟩, A50, H⟩ := H
 try dsimp only at H
 have A5 := am A50
 clear A50
 replace H := Option.bind_eq_some_iff.mp H
 obtain ⟨t640, A60, H⟩ := H
 try dsimp only at H
 have A6 := am A60
 clear A60
 by_cases c7 : t640 = true
 ·
  subst c7
  have H1 := H
  rw [if_pos rfl] at H1
  clear H
  have H := H1
  clear H1
  replace H := it_ H
  obtain ⟨c8, H⟩ := H
  have c8b0 : (t635 == t639) = true := beq_iff_eq.mpr c8
  have c8b1 : (t635 != t639) = false := bne_eq_false_iff_eq.mpr c8
  clear c8
  replace H := Option.bind_eq_some_iff.mp H
  obtain ⟨t641, A90, H⟩ := H
  try dsimp only at H
  have A9 := am A90
  clear A90
  replace H := Option.bind_eq_some_iff.mp H
  obtain ⟨t642, A100, H⟩ := H
  try dsimp only at H
  have A10 := am A100
  clear A100
  replace H := it_ H
  obtain ⟨c11, H⟩ := H
  have c11b0 : (t641 == t642) = true := c11
  (try (have c11b1 : decide (t641 = t642) = true := by simpa using c11))
  (try (have c11b2 : (t641 == t642) = true := by simpa using c11))
  clear c11
  replace H := Option.bind_eq_some_iff.mp H
  obtain ⟨t643, A120, H⟩ := H
  try dsimp only at H
  have A12 := am A120
  clear A120
  obtain rfl := Option.some.inj H
  go_enter Tryd.func5, Tryd.ntmps5
  go_wp2_with (first | ((with_reducible refine gate_dst (N := 4) rfl ?_); refine box_event rfl (N := 4) rfl (cs := #[.int .i64 a1_0, .int .i64 a1_1, .int .i64 a1_2, .string a1_3, .slice A1_4 l1_4.length c1_4]) (t := 43) gz ?_; intro gb631 hg w13 hbox hb; have BK631 := am (hbox); have GW631 := am ((bs hg (hz HB.out) : w.heap.size ≤ gb631)); have GE631 := am ((bs hg (hz HB.out) : w.heap.size ≤ gb631)); replace HB := am (below_step (hz HB.out) hb); clear hb hbox hg; obtain ⟨hcz14_0, hcz14_1, hcz14_2, hcz14_3, hcz14_4⟩ := cs5 BK631.out; obtain ⟨hfz14_0, hfz14_1, hfz14_2, hfz14_3, hfz14_4⟩ := fs5 BK631.out) | ((with_reducible refine gate_callee (f := 19) rfl ?_); refine goesL_ (some 14) rfl rfl Tryd.func19 (by kernel_rfl) rfl #[.slice A0 l0.length c0, .agg #[.int .i64 a1_0, .int .i64 a1_1, .int .i64 a1_2, .string a1_3, .slice A1_4 l1_4.length c1_4]] rfl lz ?_; (with_reducible refine (journal_Append.calls k _ _ l0 a1_0 a1_1 a1_2 a1_3 _ _ l1_4 t632 t635 _ ?sideG ?side1 ?side2 ?side3 ?side4 A4.out).mono ?_); (case sideG => exact gle HG_.out (hz1 HB.out GE631.out)); (case side1 => exact cz (Kd.C_below HR0.out HB.out)); (case side2 => exact HC0.out); (case side3 => exact cz (Kd.C_below HR1_4.out HB.out)); (case side4 => exact HC1_4.out); rintro e w15 ⟨v633, rfl, ho0, hb⟩; refine ⟨_, rfl, ?_⟩; have HO634 := am (Kd.R_lower ho0 (below_size (hz1 HB.out GE631.out))); replace BK631 := am (blk_below (bz BK631.out) hb); replace HB := am (below_step (hz1 HB.out GE631.out) hb); obtain ⟨hcz16_0, hcz16_1, hcz16_2, hcz16_3, hcz16_4⟩ := cs5 BK631.out; obtain ⟨hfz16_0, hfz16_1, hfz16_2, hfz16_3, hfz16_4⟩ := fs5 BK631.out) | ((with_reducible refine gate_callee (f := 20) rfl ?_); refine goesL_ (some 20) rfl rfl Tryd.func20 (by kernel_rfl) rfl #[.slice A0 l0.length c0, .agg #[.int .i64 a1_0, .int .i64 a1_1, .int .i64 a1_2, .string a1_3, .slice A1_4 l1_4.length c1_4]] rfl lz ?_; (with_reducible refine (examboardref49_Append.calls k _ _ l0 a1_0 a1_1 a1_2 a1_3 _ _ l1_4 t636 t639 _ ?side1 ?side2 ?side3 ?side4 A5.out).mono ?_); (case side1 => exact cz (Kd.C_below HR0.out HB.out)); (case side2 => exact HC0.out); (case side3 => exact cz (Kd.C_below HR1_4.out HB.out)); (case side4 => exact HC1_4.out); rintro e w17 ⟨v637, rfl, ho0, hb⟩; refine ⟨_, rfl, ?_⟩; have HO638 := am (Kd.R_lower (Kd.R_new' ho0 (Kd.R_lt (rz HO634.out))) (below_size (hz1 HB.out GE631.out))); replace HO634 := am (Kd.R_elder' (rz HO634.out) (Kd.R_base ho0) hb); replace BK631 := am (blk_below (bz BK631.out) hb); replace HB := am (below_step (hz1 HB.out GE631.out) hb); obtain ⟨Ao18, co18, eo18⟩ := Kd.R_slice HO634.out; subst eo18; obtain ⟨Ao19, co19, eo19⟩ := Kd.R_slice HO638.out; subst eo19) | ((with_reducible refine gate_callee (f := 13) rfl ?_); refine goesL_ (some 25) rfl rfl Tryd.func13 (by kernel_rfl) rfl #[.slice Ao18 t632.length co18, .slice Ao19 t636.length co19] rfl lz ?_; (with_reducible refine (examboardlaw49_equal.calls k _ _ t632 _ _ t636 true _ ?side1 ?side2 ?side3 ?side4 A6.out).mono ?_); (case side1 => exact cz (Kd.R_reads' HO634.out).2.2); (case side2 => exact (Kd.R_reads' HO634.out).2.1); (case side3 => exact cz (Kd.R_reads' HO638.out).2.2); (case side4 => exact (Kd.R_reads' HO638.out).2.1); rintro e w' ⟨rfl, ⟨nd, rfl⟩⟩; refine ⟨_, rfl, ?_⟩) | (go_at_call 17; (with_reducible refine (journal_Extends.calls _ _ l0 _ _ l2 t641 _ ?side1 ?side2 ?side3 ?side4 A9.out).mono ?_); (case side1 => exact cz (Kd.C_below HR0.out (hz1 HB.out GE631.out))); (case side2 => exact HC0.out); (case side3 => exact cz (Kd.C_below HR2.out (hz1 HB.out GE631.out))); (case side4 => exact HC2.out); rintro e w' ⟨rfl, ⟨nd, rfl⟩⟩) | (go_at_call 21; (with_reducible refine (examboardref49_Extends.calls k _ _ l0 _ _ l2 t642 _ ?side1 ?side2 ?side3 ?side4 A10.out).mono ?_); (case side1 => exact cz (Kd.C_below HR0.out (hz1 HB.out GE631.out))); (case side2 => exact HC0.out); (case side3 => exact cz (Kd.C_below HR2.out (hz1 HB.out GE631.out))); (case side4 => exact HC2.out); rintro e w' ⟨rfl, ⟨nd, rfl⟩⟩) | (go_at_call 16; (with_reducible refine (examboardlaw49_awake.calls k  t643 _ ?sideG A12.out).mono ?_); (case sideG => exact gle HG_.out (hz1 HB.out GE631.out)); rintro e w20 ⟨rfl, hb⟩; replace HO634 := am (Kd.R_below (rz HO634.out) hb); replace HO638 := am (Kd.R_below (rz HO638.out) hb); replace BK631 := am (blk_below (bz BK631.out) hb); replace HB := am (below_step (hz1 HB.out GE631.out) hb)))
  go_ret
  exact ⟨ez, hz1 HB.out GE631.out⟩
 ·
  replace c7 := Bool.eq_false_iff.mpr c7
  subst c7
  have H1 := H
  rw [if_neg (show ¬ (false = true) by decide)] at H1
  clear H
  have H := H1
  clear H1
  exact absurd H (by simp)

end Go.Proofs.YteeggfnailpcpaaDoor.Q
