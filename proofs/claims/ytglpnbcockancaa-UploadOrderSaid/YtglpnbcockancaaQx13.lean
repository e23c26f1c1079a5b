/- Made by wip/myprint.py of this session (it drives the kit's printer): what the calls of the Go functions come to, as plain Lean functions, and the row of a law over them; without conditions. -/
import Derived.Test.YtglpnbcockancaaQx0
import Derived.Test.YtglpnbcockancaaQx1
import Derived.Test.YtglpnbcockancaaQx10
namespace Go.Proofs.Ytglpnbcockancaa.Q
open Go.RowKit Go.Proofs.YtglpnbcockancaaW.PrintWords Go.Proofs.YtglpnbcockancaaW.PrintLast Go.Proofs.YtglpnbcockancaaW.PrintMore
attribute [local go_sem] max2_int min2_int max_two min_two max_three min_three max_four min_four   -- for this text's walks alone
set_option linter.unusedVariables false
set_option linter.unusedSimpArgs false

/-! ### examboardlaw53_same: function 17 -/
def examboardlaw53_same.f (k : Nat) (a0_0 : Int) (l0_1 : List Int) (l0_2 : List (S25)) (a1_0 : Int) (l1_1 : List Int) (l1_2 : List (S25)) : Option (Bool) := if a0_0 = a1_0 then ((examboardlaw53_equal.f k l0_1 l1_1).bind fun t191 => (if t191 = true then ((examboardlaw53_samePackets.f k l0_2 l1_2).bind fun t192 => (some t192)) else (some false))) else (some false)
theorem examboardlaw53_same.mono : ∀ a0 a1 a2 a3 a4 a5 k, LeO (examboardlaw53_same.f k a0 a1 a2 a3 a4 a5) (examboardlaw53_same.f (k + 1) a0 a1 a2 a3 a4 a5) := by
 intro a0 a1 a2 a3 a4 a5 k
 unfold examboardlaw53_same.f
 repeat' first
   | (with_reducible exact examboardlaw53_equal.mono _ _ _)
   | (with_reducible exact examboardlaw53_samePackets.mono _ _ _)
   | (with_reducible exact LeO.refl _)
   | (with_reducible exact LeO.none _)
   | (with_reducible refine LeO.ite ?_ ?_)
   | (with_reducible refine LeO.bind ?_ (fun _ => ?_))
   | exact examboardlaw53_equal.mono _ _ _
   | exact examboardlaw53_samePackets.mono _ _ _
   | exact LeO.none _
   | refine LeO.ite ?_ ?_
   | refine LeO.bind ?_ (fun _ => ?_)
set_option maxHeartbeats 8000000 in
set_option maxRecDepth 100000 in
theorem examboardlaw53_same.calls (k : Nat) (a0_0 : Int) (A0_1 : Option Addr) (c0_1 : Nat) (l0_1 : List Int) (A0_2 : Option Addr) (c0_2 : Nat) (l0_2 : List (S25)) (a1_0 : Int) (A1_1 : Option Addr) (c1_1 : Nat) (l1_1 : List Int) (A1_2 : Option Addr) (c1_2 : Nat) (l1_2 : List (S25)) (r : Bool) (w : World) (hr0_1 : Kd.C (Kd.int .u8) w A0_1 l0_1.length l0_1) (hc0_1 : l0_1.length ≤ c0_1) (hr0_2 : Kd.C k25 w A0_2 l0_2.length l0_2) (hc0_2 : l0_2.length ≤ c0_2) (hr1_1 : Kd.C (Kd.int .u8) w A1_1 l1_1.length l1_1) (hc1_1 : l1_1.length ≤ c1_1) (hr1_2 : Kd.C k25 w A1_2 l1_2.length l1_2) (hc1_2 : l1_2.length ≤ c1_2) (h : examboardlaw53_same.f k a0_0 l0_1 l0_2 a1_0 l1_1 l1_2 = some r) :
  Calls Try.prog 17 #[.agg #[.int .i64 a0_0, .slice A0_1 l0_1.length c0_1, .slice A0_2 l0_2.length c0_2], .agg #[.int .i64 a1_0, .slice A1_1 l1_1.length c1_1, .slice A1_2 l1_2.length c1_2]] w fun e w' => e = .returned (.bool r) ∧ Below w.heap.size w w' := by
 have hu34 := Try.underlying34
 have HR0_1 := am hr0_1
 have HC0_1 := am hc0_1
 clear hr0_1 hc0_1
 have HR0_2 := am hr0_2
 have HC0_2 := am hc0_2
 clear hr0_2 hc0_2
 have HR1_1 := am hr1_1
 have HC1_1 := am hc1_1
 clear hr1_1 hc1_1
 have HR1_2 := am hr1_2
 have HC1_2 := am hc1_2
 clear hr1_2 hc1_2
 have HB := am (Below.refl w.heap.size w)
 have H : (if a0_0 = a1_0 then ((examboardlaw53_equal.f k l0_1 l1_1).bind fun t191 => (if t191 = true then ((examboardlaw53_samePackets.f k l0_2 l1_2).bind fun t192 => (some t192)) else (some false))) else (some false)) = some r := h
 clear h
 by_cases c3 : a0_0 = a1_0
 ·
  rw [if_pos c3] at H
  have c3b0 : (a0_0 == a1_0) = true := beq_iff_eq.mpr c3
  have c3b1 : (a0_0 != a1_0) = false := bne_eq_false_iff_eq.mpr c3
  clear c3
  replace H := Option.bind_eq_some_iff.mp H
  obtain ⟨t191, A40, H⟩ := H
  replace H : (if t191 = true then ((examboardlaw53_samePackets.f k l0_2 l1_2).bind fun t192 => (some t192)) else (some false)) = some r := H
  have A4 := am A40
  clear A40
  by_cases c5 : t191 = true
  ·
   subst c5
   have H1 : ((examboardlaw53_samePackets.f k l0_2 l1_2).bind fun t192 => (some t192)) = some r := by rw [if_pos rfl] at H; exact H
   clear H
   have H := H1
   clear H1
   replace H := Option.bind_eq_some_iff.mp H
   obtain ⟨t192, A60, H⟩ := H
   replace H : (some t192) = some r := H
   have A6 := am A60
   clear A60
   obtain rfl := Option.some.inj H
   go_enter Try.func17, Try.ntmps17
   go_wp2_with (first | ((with_reducible refine gate_dst (N := 2) rfl ?_); refine box_event ?hg (N := 2) ?hd (cs := #[.int .i64 a0_0, .slice A0_1 l0_1.length c0_1, .slice A0_2 l0_2.length c0_2]) (t := 34) ?hr ?_; (case hd => rfl); (case hg => rfl); (case hr => exact gz); intro gb189 hg w7 hbox hb; have BK189 := am (hbox); have GW189 := am ((bs hg (hz HB.out) : w.heap.size ≤ gb189)); have GE189 := am ((bs hg (hz HB.out) : w.heap.size ≤ gb189)); replace HB := am (below_step (hz HB.out) hb); clear hb hbox hg) | ((with_reducible refine gate_dst (N := 3) rfl ?_); refine box_event ?hg (N := 3) ?hd (cs := #[.int .i64 a1_0, .slice A1_1 l1_1.length c1_1, .slice A1_2 l1_2.length c1_2]) (t := 34) ?hr ?_; (case hd => rfl); (case hg => rfl); (case hr => exact gz); intro gb190 hg w8 hbox hb; have BK190 := am (hbox); have GW190 := am ((bs hg (hz1 HB.out GE189.out) : w.heap.size ≤ gb190)); have GE190 := am ((bs hg (hz1 HB.out GE189.out) : w.heap.size ≤ gb190)); replace HB := am (below_step (hz1 HB.out GE189.out) hb); have NB189_190 := am ((nl hg (bz BK189.out) : gb189 ≠ gb190)); have NB190_189 := am ((ng hg (bz BK189.out) : gb190 ≠ gb189)); replace BK189 := am (blk_below (bz BK189.out) hb); clear hb hbox hg; have hnb9 := NB189_190.out; have hnc9 := NB190_189.out; obtain ⟨hcz10_0, hcz10_1, hcz10_2⟩ := cs3 BK189.out; obtain ⟨hfz10_0, hfz10_1, hfz10_2⟩ := fs3 BK189.out; obtain ⟨hcz11_0, hcz11_1, hcz11_2⟩ := cs3 BK190.out; obtain ⟨hfz11_0, hfz11_1, hfz11_2⟩ := fs3 BK190.out) | (go_at_call 22; (with_reducible refine (examboardlaw53_equal.calls k _ _ l0_1 _ _ l1_1 true _ ?side1 ?side2 ?side3 ?side4 A4.out).mono ?_); (case side1 => exact cz (Kd.C_below HR0_1.out HB.out)); (case side2 => exact HC0_1.out); (case side3 => exact cz (Kd.C_below HR1_1.out HB.out)); (case side4 => exact HC1_1.out); rintro e w' ⟨rfl, ⟨nd, rfl⟩⟩) | (go_at_call 16; (with_reducible refine (examboardlaw53_samePackets.calls k _ _ l0_2 _ _ l1_2 t192 _ ?side1 ?side2 ?side3 ?side4 A6.out).mono ?_); (case side1 => repeat (first | exact (Kd.C_below HR0_2.out (hz2 HB.out GE189.out GE190.out)) | (with_reducible refine Kd.C_alloc ?_ _) | (with_reducible refine Kd.C_drewN ?_ _) | (with_reducible refine Kd.C_drew ?_))); (case side2 => exact HC0_2.out); (case side3 => repeat (first | exact (Kd.C_below HR1_2.out (hz2 HB.out GE189.out GE190.out)) | (with_reducible refine Kd.C_alloc ?_ _) | (with_reducible refine Kd.C_drewN ?_ _) | (with_reducible refine Kd.C_drew ?_))); (case side4 => exact HC1_2.out); rintro e w12 ⟨rfl, hb⟩; replace BK189 := am (blk_below (bz BK189.out) hb); replace BK190 := am (blk_below (bz BK190.out) hb); replace HB := am (below_step (hz2 HB.out GE189.out GE190.out) hb); (try clear hb); (try clear hb2); (try clear hk); (try clear hi)))
   go_ret
   exact ⟨ez, hz2 HB.out GE189.out GE190.out⟩
  ·
   replace c5 := Bool.eq_false_iff.mpr c5
   subst c5
   have H1 : (some false) = some r := by rw [if_neg (show ¬ (false = true) by decide)] at H; exact H
   clear H
   have H := H1
   clear H1
   obtain rfl := Option.some.inj H
   go_enter Try.func17, Try.ntmps17
   go_wp2_with (first | ((with_reducible refine gate_dst (N := 2) rfl ?_); refine box_event ?hg (N := 2) ?hd (cs := #[.int .i64 a0_0, .slice A0_1 l0_1.length c0_1, .slice A0_2 l0_2.length c0_2]) (t := 34) ?hr ?_; (case hd => rfl); (case hg => rfl); (case hr => exact gz); intro gb189 hg w13 hbox hb; have BK189 := am (hbox); have GW189 := am ((bs hg (hz HB.out) : w.heap.size ≤ gb189)); have GE189 := am ((bs hg (hz HB.out) : w.heap.size ≤ gb189)); replace HB := am (below_step (hz HB.out) hb); clear hb hbox hg) | ((with_reducible refine gate_dst (N := 3) rfl ?_); refine box_event ?hg (N := 3) ?hd (cs := #[.int .i64 a1_0, .slice A1_1 l1_1.length c1_1, .slice A1_2 l1_2.length c1_2]) (t := 34) ?hr ?_; (case hd => rfl); (case hg => rfl); (case hr => exact gz); intro gb190 hg w14 hbox hb; have BK190 := am (hbox); have GW190 := am ((bs hg (hz1 HB.out GE189.out) : w.heap.size ≤ gb190)); have GE190 := am ((bs hg (hz1 HB.out GE189.out) : w.heap.size ≤ gb190)); replace HB := am (below_step (hz1 HB.out GE189.out) hb); have NB189_190 := am ((nl hg (bz BK189.out) : gb189 ≠ gb190)); have NB190_189 := am ((ng hg (bz BK189.out) : gb190 ≠ gb189)); replace BK189 := am (blk_below (bz BK189.out) hb); clear hb hbox hg; have hnb15 := NB189_190.out; have hnc15 := NB190_189.out; obtain ⟨hcz16_0, hcz16_1, hcz16_2⟩ := cs3 BK189.out; obtain ⟨hfz16_0, hfz16_1, hfz16_2⟩ := fs3 BK189.out; obtain ⟨hcz17_0, hcz17_1, hcz17_2⟩ := cs3 BK190.out; obtain ⟨hfz17_0, hfz17_1, hfz17_2⟩ := fs3 BK190.out) | (go_at_call 22; (with_reducible refine (examboardlaw53_equal.calls k _ _ l0_1 _ _ l1_1 false _ ?side1 ?side2 ?side3 ?side4 A4.out).mono ?_); (case side1 => exact cz (Kd.C_below HR0_1.out HB.out)); (case side2 => exact HC0_1.out); (case side3 => exact cz (Kd.C_below HR1_1.out HB.out)); (case side4 => exact HC1_1.out); rintro e w' ⟨rfl, ⟨nd, rfl⟩⟩))
   go_ret
   exact ⟨ez, hz2 HB.out GE189.out GE190.out⟩
 ·
  rw [if_neg c3] at H
  have c3b0 : (a0_0 == a1_0) = false := beq_eq_false_iff_ne.mpr c3
  have c3b1 : (a0_0 != a1_0) = true := bne_iff_ne.mpr c3
  obtain rfl := Option.some.inj H
  go_enter Try.func17, Try.ntmps17
  go_wp2_with (first | ((with_reducible refine gate_dst (N := 2) rfl ?_); refine box_event ?hg (N := 2) ?hd (cs := #[.int .i64 a0_0, .slice A0_1 l0_1.length c0_1, .slice A0_2 l0_2.length c0_2]) (t := 34) ?hr ?_; (case hd => rfl); (case hg => rfl); (case hr => exact gz); intro gb189 hg w18 hbox hb; have BK189 := am (hbox); have GW189 := am ((bs hg (hz HB.out) : w.heap.size ≤ gb189)); have GE189 := am ((bs hg (hz HB.out) : w.heap.size ≤ gb189)); replace HB := am (below_step (hz HB.out) hb); clear hb hbox hg) | ((with_reducible refine gate_dst (N := 3) rfl ?_); refine box_event ?hg (N := 3) ?hd (cs := #[.int .i64 a1_0, .slice A1_1 l1_1.length c1_1, .slice A1_2 l1_2.length c1_2]) (t := 34) ?hr ?_; (case hd => rfl); (case hg => rfl); (case hr => exact gz); intro gb190 hg w19 hbox hb; have BK190 := am (hbox); have GW190 := am ((bs hg (hz1 HB.out GE189.out) : w.heap.size ≤ gb190)); have GE190 := am ((bs hg (hz1 HB.out GE189.out) : w.heap.size ≤ gb190)); replace HB := am (below_step (hz1 HB.out GE189.out) hb); have NB189_190 := am ((nl hg (bz BK189.out) : gb189 ≠ gb190)); have NB190_189 := am ((ng hg (bz BK189.out) : gb190 ≠ gb189)); replace BK189 := am (blk_below (bz BK189.out) hb); clear hb hbox hg; have hnb20 := NB189_190.out; have hnc20 := NB190_189.out; obtain ⟨hcz21_0, hcz21_1, hcz21_2⟩ := cs3 BK189.out; obtain ⟨hfz21_0, hfz21_1, hfz21_2⟩ := fs3 BK189.out; obtain ⟨hcz22_0, hcz22_1, hcz22_2⟩ := cs3 BK190.out; obtain ⟨hfz22_0, hfz22_1, hfz22_2⟩ := fs3 BK190.out))
  go_ret
  exact ⟨ez, hz2 HB.out GE189.out GE190.out⟩

end Go.Proofs.Ytglpnbcockancaa.Q
