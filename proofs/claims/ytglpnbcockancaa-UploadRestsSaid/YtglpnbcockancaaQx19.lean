/- Made by wip/myprint.py of this session (it drives the kit's printer): what the calls of the Go functions come to, as plain Lean functions, and the row of a law over them; without conditions. -/
import Derived.Test.YtglpnbcockancaaQx0
import Derived.Test.YtglpnbcockancaaQx7
import Derived.Test.YtglpnbcockancaaQx9
import Derived.Test.YtglpnbcockancaaQx10
import Derived.Test.YtglpnbcockancaaQx13
namespace Go.Proofs.Ytglpnbcockancaa.Q
open Go.RowKit Go.Proofs.YtglpnbcockancaaW.PrintWords Go.Proofs.YtglpnbcockancaaW.PrintLast Go.Proofs.YtglpnbcockancaaW.PrintMore
attribute [local go_sem] max2_int min2_int max_two min_two max_three min_three max_four min_four   -- for this text's walks alone
set_option linter.unusedVariables false
set_option linter.unusedSimpArgs false

/-! ### examboardlaw53_UploadRests: function 7 -/
def examboardlaw53_UploadRests.f (k : Nat) (a0_0 : Int) (l0_1 : List Int) (l0_2 : List (S25)) (l1 : List Int) (a2 : Int) : Option (Bool) := (upload_Rest.f k a0_0 l0_1 l0_2 l1 a2).bind fun bt499 => ((examboardref53_Rest.f k a0_0 l0_1 l0_2 l1 a2).bind fun bt503 => (if bt499.2 = bt503.2 then ((examboardlaw53_samePackets.f k bt499.1 bt503.1).bind fun t507 => (if t507 = true then ((examboardlaw53_awake.f k).bind fun t508 => (some t508)) else (none))) else (none)))
theorem examboardlaw53_UploadRests.mono : ∀ a0 a1 a2 a3 a4 k, LeO (examboardlaw53_UploadRests.f k a0 a1 a2 a3 a4) (examboardlaw53_UploadRests.f (k + 1) a0 a1 a2 a3 a4) := by
 intro a0 a1 a2 a3 a4 k
 unfold examboardlaw53_UploadRests.f
 repeat' first
   | (with_reducible exact examboardlaw53_awake.mono _)
   | (with_reducible exact examboardlaw53_samePackets.mono _ _ _)
   | (with_reducible exact examboardref53_Rest.mono _ _ _ _ _ _)
   | (with_reducible exact upload_Rest.mono _ _ _ _ _ _)
   | (with_reducible exact LeO.refl _)
   | (with_reducible exact LeO.none _)
   | (with_reducible refine LeO.ite ?_ ?_)
   | (with_reducible refine LeO.bind ?_ (fun _ => ?_))
   | exact examboardlaw53_awake.mono _
   | exact examboardlaw53_samePackets.mono _ _ _
   | exact examboardref53_Rest.mono _ _ _ _ _ _
   | exact upload_Rest.mono _ _ _ _ _ _
   | exact LeO.none _
   | refine LeO.ite ?_ ?_
   | refine LeO.bind ?_ (fun _ => ?_)
set_option maxHeartbeats 8000000 in
set_option maxRecDepth 100000 in
theorem examboardlaw53_UploadRests.calls (k : Nat) (a0_0 : Int) (A0_1 : Option Addr) (c0_1 : Nat) (l0_1 : List Int) (A0_2 : Option Addr) (c0_2 : Nat) (l0_2 : List (S25)) (A1 : Option Addr) (c1 : Nat) (l1 : List Int) (a2 : Int) (r : Bool) (w : World) (hr0_1 : Kd.C (Kd.int .u8) w A0_1 l0_1.length l0_1) (hc0_1 : l0_1.length ≤ c0_1) (hr0_2 : Kd.C k25 w A0_2 l0_2.length l0_2) (hc0_2 : l0_2.length ≤ c0_2) (hr1 : Kd.C (Kd.int .u8) w A1 l1.length l1) (hc1 : l1.length ≤ c1) (h : examboardlaw53_UploadRests.f k a0_0 l0_1 l0_2 l1 a2 = some r) :
  Calls Try.prog 7 #[.agg #[.int .i64 a0_0, .slice A0_1 l0_1.length c0_1, .slice A0_2 l0_2.length c0_2], .slice A1 l1.length c1, .int .i64 a2] w fun e w' => e = .returned (.bool r) ∧ Below w.heap.size w w' := by
 have hu34 := Try.underlying34
 have HR0_1 := am hr0_1
 have HC0_1 := am hc0_1
 clear hr0_1 hc0_1
 have HR0_2 := am hr0_2
 have HC0_2 := am hc0_2
 clear hr0_2 hc0_2
 have HR1 := am hr1
 have HC1 := am hc1
 clear hr1 hc1
 have HB := am (Below.refl w.heap.size w)
 have H : ((upload_Rest.f k a0_0 l0_1 l0_2 l1 a2).bind fun bt499 => ((examboardref53_Rest.f k a0_0 l0_1 l0_2 l1 a2).bind fun bt503 => (if bt499.2 = bt503.2 then ((examboardlaw53_samePackets.f k bt499.1 bt503.1).bind fun t507 => (if t507 = true then ((examboardlaw53_awake.f k).bind fun t508 => (some t508)) else (none))) else (none)))) = some r := h
 clear h
 replace H := Option.bind_eq_some_iff.mp H
 obtain ⟨⟨t499, t502⟩, A40, H⟩ := H
 replace H : ((examboardref53_Rest.f k a0_0 l0_1 l0_2 l1 a2).bind fun bt503 => (if t502 = bt503.2 then ((examboardlaw53_samePackets.f k t499 bt503.1).bind fun t507 => (if t507 = true then ((examboardlaw53_awake.f k).bind fun t508 => (some t508)) else (none))) else (none))) = some r := H
 have A4 := am A40
 clear A40
 replace H := Option.bind_eq_some_iff.mp H
 obtain ⟨⟨t503, t506⟩, A50, H⟩ := H
 replace H : (if t502 = t506 then ((examboardlaw53_samePackets.f k t499 t503).bind fun t507 => (if t507 = true then ((examboardlaw53_awake.f k).bind fun t508 => (some t508)) else (none))) else (none)) = some r := H
 have A5 := am A50
 clear A50
 by_cases c6 : t502 = t506
 ·
  rw [if_pos c6] at H
  have c6b0 : (t502 == t506) = true := beq_iff_eq.mpr c6
  have c6b1 : (t502 != t506) = false := bne_eq_false_iff_eq.mpr c6
  clear c6
  replace H := Option.bind_eq_some_iff.mp H
  obtain ⟨t507, A70, H⟩ := H
  replace H : (if t507 = true then ((examboardlaw53_awake.f k).bind fun t508 => (some t508)) else (none)) = some r := H
  have A7 := am A70
  clear A70
  by_cases c8 : t507 = true
  ·
   subst c8
   have H1 : ((examboardlaw53_awake.f k).bind fun t508 => (some t508)) = some r := by rw [if_pos rfl] at H; exact H
   clear H
   have H := H1
   clear H1
   replace H := Option.bind_eq_some_iff.mp H
   obtain ⟨t508, A90, H⟩ := H
   replace H : (some t508) = some r := H
   have A9 := am A90
   clear A90
   obtain rfl := Option.some.inj H
   go_enter Try.func7, Try.ntmps7
   go_wp2_with (first | ((with_reducible refine gate_dst (N := 3) rfl ?_); refine box_event ?hg (N := 3) ?hd (cs := #[.int .i64 a0_0, .slice A0_1 l0_1.length c0_1, .slice A0_2 l0_2.length c0_2]) (t := 34) ?hr ?_; (case hd => rfl); (case hg => rfl); (case hr => exact gz); intro gb498 hg w10 hbox hb; have n0_ := am (below_step (hz HB.out) hb); have n1_ := am (hbox); have n2_ := am ((bs hg (hz HB.out) : w.heap.size ≤ gb498)); have n3_ := am ((bs hg (hz HB.out) : w.heap.size ≤ gb498)); clear HB; have HB := n0_; have BK498 := n1_; have GW498 := n2_; have GE498 := n3_; clear n0_ n1_ n2_ n3_; clear hb hbox hg; obtain ⟨hcz11_0, hcz11_1, hcz11_2⟩ := cs3 BK498.out; obtain ⟨hfz11_0, hfz11_1, hfz11_2⟩ := fs3 BK498.out) | ((with_reducible refine gate_callee (f := 24) rfl ?_); refine goesL_ (some 15) rfl rfl Try.func24 (by kernel_rfl) rfl #[.agg #[.int .i64 a0_0, .slice A0_1 l0_1.length c0_1, .slice A0_2 l0_2.length c0_2], .slice A1 l1.length c1, .int .i64 a2] rfl lz ?_; (with_reducible refine (upload_Rest.calls k a0_0 _ _ l0_1 _ _ l0_2 _ _ l1 a2 t499 t502 _ ?side1 ?side2 ?side3 ?side4 ?side5 ?side6 A4.out).mono ?_); (case side1 => exact cz (Kd.C_below HR0_1.out HB.out)); (case side2 => exact HC0_1.out); (case side3 => exact cz (Kd.C_below HR0_2.out HB.out)); (case side4 => exact HC0_2.out); (case side5 => exact cz (Kd.C_below HR1.out HB.out)); (case side6 => exact HC1.out); rintro e w12 ⟨v500, rfl, ho0, hb⟩; refine ⟨_, rfl, ?_⟩; have n0_ := am (Kd.S_lower ho0 (below_size (hz1 HB.out GE498.out))); have n1_ := am (blk_below (bz BK498.out) hb); have n2_ := am (below_step (hz1 HB.out GE498.out) hb); clear BK498; clear HB; have HO501 := n0_; have BK498 := n1_; have HB := n2_; clear n0_ n1_ n2_; (try clear hb); (try clear hb2); (try clear hk); (try clear hi); (try clear ho0); obtain ⟨hcz13_0, hcz13_1, hcz13_2⟩ := cs3 BK498.out; obtain ⟨hfz13_0, hfz13_1, hfz13_2⟩ := fs3 BK498.out) | ((with_reducible refine gate_callee (f := 25) rfl ?_); refine goesL_ (some 22) rfl rfl Try.func25 (by kernel_rfl) rfl #[.agg #[.int .i64 a0_0, .slice A0_1 l0_1.length c0_1, .slice A0_2 l0_2.length c0_2], .slice A1 l1.length c1, .int .i64 a2] rfl lz ?_; (with_reducible refine (examboardref53_Rest.calls k a0_0 _ _ l0_1 _ _ l0_2 _ _ l1 a2 t503 t506 _ ?side1 ?side2 ?side3 ?side4 ?side5 ?side6 A5.out).mono ?_); (case side1 => exact cz (Kd.C_below HR0_1.out HB.out)); (case side2 => exact HC0_1.out); (case side3 => exact cz (Kd.C_below HR0_2.out HB.out)); (case side4 => exact HC0_2.out); (case side5 => exact cz (Kd.C_below HR1.out HB.out)); (case side6 => exact HC1.out); rintro e w14 ⟨v504, rfl, ho0, hb⟩; refine ⟨_, rfl, ?_⟩; have n0_ := am (Kd.S_elder' (sz HO501.out) (Kd.S_base ho0) hb); have n1_ := am (Kd.S_lower (Kd.S_new' ho0 (Kd.S_lt (sz HO501.out))) (below_size (hz1 HB.out GE498.out))); have n2_ := am (blk_below (bz BK498.out) hb); have n3_ := am (below_step (hz1 HB.out GE498.out) hb); clear HO501; clear BK498; clear HB; have HO501 := n0_; have HO505 := n1_; have BK498 := n2_; have HB := n3_; clear n0_ n1_ n2_ n3_; (try clear hb); (try clear hb2); (try clear hk); (try clear hi); (try clear ho0); obtain ⟨Ao15, co15, eo15⟩ := Kd.S_slice HO501.out; subst eo15; obtain ⟨Ao16, co16, eo16⟩ := Kd.S_slice HO505.out; subst eo16) | (go_at_call 16; (with_reducible refine (examboardlaw53_samePackets.calls k _ _ t499 _ _ t503 true _ ?side1 ?side2 ?side3 ?side4 A7.out).mono ?_); (case side1 => repeat (first | exact (Kd.S_reads' HO501.out).2.2 | (with_reducible refine Kd.C_alloc ?_ _) | (with_reducible refine Kd.C_drewN ?_ _) | (with_reducible refine Kd.C_drew ?_))); (case side2 => exact (Kd.S_reads' HO501.out).2.1); (case side3 => repeat (first | exact (Kd.S_reads' HO505.out).2.2 | (with_reducible refine Kd.C_alloc ?_ _) | (with_reducible refine Kd.C_drewN ?_ _) | (with_reducible refine Kd.C_drew ?_))); (case side4 => exact (Kd.S_reads' HO505.out).2.1); rintro e w17 ⟨rfl, hb⟩; have n0_ := am (Kd.S_below (sz HO501.out) hb); have n1_ := am (Kd.S_below (sz HO505.out) hb); have n2_ := am (blk_below (bz BK498.out) hb); have n3_ := am (below_step (hz1 HB.out GE498.out) hb); clear HO501; clear HO505; clear BK498; clear HB; have HO501 := n0_; have HO505 := n1_; have BK498 := n2_; have HB := n3_; clear n0_ n1_ n2_ n3_; (try clear hb); (try clear hb2); (try clear hk); (try clear hi)) | (go_at_call 18; (with_reducible refine (examboardlaw53_awake.calls k  t508 _ A9.out).mono ?_); rintro e w18 ⟨rfl, hb⟩; have n0_ := am (Kd.S_below (sz HO501.out) hb); have n1_ := am (Kd.S_below (sz HO505.out) hb); have n2_ := am (blk_below (bz BK498.out) hb); have n3_ := am (below_step (hz1 HB.out GE498.out) hb); clear HO501; clear HO505; clear BK498; clear HB; have HO501 := n0_; have HO505 := n1_; have BK498 := n2_; have HB := n3_; clear n0_ n1_ n2_ n3_; (try clear hb); (try clear hb2); (try clear hk); (try clear hi)))
   go_ret
   exact ⟨ez, hz1 HB.out GE498.out⟩
  ·
   replace c8 := Bool.eq_false_iff.mpr c8
   subst c8
   have H1 : (none) = some r := by rw [if_neg (show ¬ (false = true) by decide)] at H; exact H
   clear H
   have H := H1
   clear H1
   exact absurd H (by simp)
 ·
  rw [if_neg c6] at H
  exact absurd H (by simp)

end Go.Proofs.Ytglpnbcockancaa.Q
