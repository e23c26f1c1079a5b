/- Made by wip/myprint.py of this session (it drives the kit's printer): what the calls of the Go functions come to, as plain Lean functions, and the row of a law over them; without conditions. -/
import Derived.Test.YteeggfnailpcpaaDoorQx0
import Derived.Test.YteeggfnailpcpaaDoorQx11
namespace Go.Proofs.YteeggfnailpcpaaDoor.Q
open Go.RowKit Go.Proofs.YteeggfnailpcpaaDoorW.PrintWords Go.Proofs.YteeggfnailpcpaaDoorW.PrintLast Go.Proofs.YteeggfnailpcpaaDoorW.PrintMore
attribute [local go_sem] max2_int min2_int max_two min_two max_three min_three max_four min_four   -- for this text's walks alone
set_option linter.unusedVariables false
set_option linter.unusedSimpArgs false

/-! ### examboardref10_node: function 71 -/
mutual
def examboardref10_node.j0 : Nat → List Int → Int → Int → Bool → Int → Int → Int → ByteArray → Option (Int × Int × Int × ByteArray × (List (S43)) × Int × Int)
 | 0, _, _, _, _, _, _, _, _ => none
 | k + 1, x0, x1, x2, x56, x480000, x480001, x480002, x480003 => if x56 = true then (some (0, 0, 0, (⟨#[]⟩ : ByteArray), ([] : List (S43)), 0, 2)) else ((examboardref10_number.f k x0 (wrap64 (x1 + 1))).bind fun bt480 => (if bt480.2.2 = 0 then (if x480001 = 1 then (if (Int.tmod bt480.1 2) = 1 then (some (x480000, x480001, wrap64 ((wrap64 (-(wrap64 (IntKind.u64.wrap (Int.tdiv bt480.1 2))))) - 1), x480003, ([] : List (S43)), bt480.2.1, 0)) else (some (x480000, x480001, wrap64 (IntKind.u64.wrap (Int.tdiv bt480.1 2)), x480003, ([] : List (S43)), bt480.2.1, 0))) else (if x480001 = 2 then ((examboardref10_text.f x0 bt480.2.1 bt480.1 x480000 x480001 x480002 x480003 ([] : List (S43))).bind fun bt483 => (some (bt483.1, bt483.2.1, bt483.2.2.1, bt483.2.2.2.1, bt483.2.2.2.2.1, bt483.2.2.2.2.2.1, bt483.2.2.2.2.2.2))) else (if bt480.1 > 1024 then (some (0, 0, 0, (⟨#[]⟩ : ByteArray), ([] : List (S43)), 0, 5)) else (examboardref10_node.l0 k x0 bt480.2.1 x2 bt480.1 0 x480000 x480001 x480002 x480003 ([] : List (S43)))))) else (some (0, 0, 0, (⟨#[]⟩ : ByteArray), ([] : List (S43)), 0, bt480.2.2))))
def examboardref10_node.l0 : Nat → List Int → Int → Int → Int → Int → Int → Int → Int → ByteArray → List (S43) → Option (Int × Int × Int × ByteArray × (List (S43)) × Int × Int)
 | 0, _, _, _, _, _, _, _, _, _, _ => none
 | k + 1, x0, x1, x2, x12, x13, x480000, x480001, x480002, x480003, x480004 => if x13 < (wrap64 (x12)) then ((examboardref10_node.f k x0 x1 (wrap64 (x2 + 1))).bind fun bt492 => (if bt492.2.2.2.2.2.2 = 0 then (if x480004.length < 2199023255552 then (examboardref10_node.l0 k x0 bt492.2.2.2.2.2.1 x2 x12 (wrap64 (x13 + 1)) x480000 x480001 x480002 x480003 (x480004 ++ [(⟨bt492.1, bt492.2.1, bt492.2.2.1, bt492.2.2.2.1, bt492.2.2.2.2.1⟩ : S43)])) else (none)) else (some (0, 0, 0, (⟨#[]⟩ : ByteArray), ([] : List (S43)), 0, bt492.2.2.2.2.2.2)))) else (some (x480000, x480001, x480002, x480003, x480004, x1, 0))
def examboardref10_node.f : Nat → List Int → Int → Int → Option (Int × Int × Int × ByteArray × (List (S43)) × Int × Int)
 | 0, _, _, _ => none
 | k + 1, l0, a1, a2 => if a2 > 8 then (some (0, 0, 0, (⟨#[]⟩ : ByteArray), ([] : List (S43)), 0, 5)) else ((examboardref10_number.f k l0 a1).bind fun bt474 => (if bt474.2.2 = 0 then (if bt474.1 > 9999999 then (some (0, 0, 0, (⟨#[]⟩ : ByteArray), ([] : List (S43)), 0, 3)) else ((examboardref10_need.f l0 bt474.2.1 1).bind fun t477 => (if t477 = 0 then (if 0 ≤ bt474.2.1 then (if bt474.2.1 < (l0.length : Int) then (if (wrap64 (rd l0 bt474.2.1)) < 1 then (examboardref10_node.j0 k l0 bt474.2.1 a2 true (wrap64 (bt474.1)) (wrap64 (rd l0 bt474.2.1)) 0 (⟨#[]⟩ : ByteArray)) else (examboardref10_node.j0 k l0 bt474.2.1 a2 (decide ((wrap64 (rd l0 bt474.2.1)) > 3)) (wrap64 (bt474.1)) (wrap64 (rd l0 bt474.2.1)) 0 (⟨#[]⟩ : ByteArray))) else (none)) else (none)) else (some (0, 0, 0, (⟨#[]⟩ : ByteArray), ([] : List (S43)), 0, t477))))) else (some (0, 0, 0, (⟨#[]⟩ : ByteArray), ([] : List (S43)), 0, bt474.2.2))))
end
theorem examboardref10_node.mono_l : ∀ k, (∀ y0 y1 y2, LeO (examboardref10_node.f k y0 y1 y2) (examboardref10_node.f (k + 1) y0 y1 y2)) ∧ (∀ y0 y1 y2 y3 y4 y5 y6 y7, LeO (examboardref10_node.j0 k y0 y1 y2 y3 y4 y5 y6 y7) (examboardref10_node.j0 (k + 1) y0 y1 y2 y3 y4 y5 y6 y7)) ∧ (∀ y0 y1 y2 y3 y4 y5 y6 y7 y8 y9, LeO (examboardref10_node.l0 k y0 y1 y2 y3 y4 y5 y6 y7 y8 y9) (examboardref10_node.l0 (k + 1) y0 y1 y2 y3 y4 y5 y6 y7 y8 y9))
 | 0 => ⟨fun _ _ _ r h => by simp [examboardref10_node.f] at h, fun _ _ _ _ _ _ _ _ r h => by simp [examboardref10_node.j0] at h, fun _ _ _ _ _ _ _ _ _ _ r h => by simp [examboardref10_node.l0] at h⟩
 | k + 1 => by
  obtain ⟨ih0, ih1, ih2⟩ := examboardref10_node.mono_l k
  refine ⟨?_, ?_, ?_⟩
  ·
   intro y0 y1 y2
   unfold examboardref10_node.f
   repeat' first
   | (with_reducible exact ih0 _ _ _)
   | (with_reducible exact ih1 _ _ _ _ _ _ _ _)
   | (with_reducible exact ih2 _ _ _ _ _ _ _ _ _ _)
   | (with_reducible exact examboardref10_number.mono _ _ _)
   | (with_reducible exact LeO.refl _)
   | (with_reducible exact LeO.none _)
   | (with_reducible refine LeO.ite ?_ ?_)
   | (with_reducible refine LeO.bind ?_ (fun _ => ?_))
   | exact ih0 _ _ _
   | exact ih1 _ _ _ _ _ _ _ _
   | exact ih2 _ _ _ _ _ _ _ _ _ _
   | exact examboardref10_number.mono _ _ _
   | exact LeO.none _
   | refine LeO.ite ?_ ?_
   | refine LeO.bind ?_ (fun _ => ?_)
  ·
   intro y0 y1 y2 y3 y4 y5 y6 y7
   unfold examboardref10_node.j0
   repeat' first
   | (with_reducible exact ih0 _ _ _)
   | (with_reducible exact ih1 _ _ _ _ _ _ _ _)
   | (with_reducible exact ih2 _ _ _ _ _ _ _ _ _ _)
   | (with_reducible exact examboardref10_number.mono _ _ _)
   | (with_reducible exact LeO.refl _)
   | (with_reducible exact LeO.none _)
   | (with_reducible refine LeO.ite ?_ ?_)
   | (with_reducible refine LeO.bind ?_ (fun _ => ?_))
   | exact ih0 _ _ _
   | exact ih1 _ _ _ _ _ _ _ _
   | exact ih2 _ _ _ _ _ _ _ _ _ _
   | exact examboardref10_number.mono _ _ _
   | exact LeO.none _
   | refine LeO.ite ?_ ?_
   | refine LeO.bind ?_ (fun _ => ?_)
  ·
   intro y0 y1 y2 y3 y4 y5 y6 y7 y8 y9
   unfold examboardref10_node.l0
   repeat' first
   | (with_reducible exact ih0 _ _ _)
   | (with_reducible exact ih1 _ _ _ _ _ _ _ _)
   | (with_reducible exact ih2 _ _ _ _ _ _ _ _ _ _)
   | (with_reducible exact examboardref10_number.mono _ _ _)
   | (with_reducible exact LeO.refl _)
   | (with_reducible exact LeO.none _)
   | (with_reducible refine LeO.ite ?_ ?_)
   | (with_reducible refine LeO.bind ?_ (fun _ => ?_))
   | exact ih0 _ _ _
   | exact ih1 _ _ _ _ _ _ _ _
   | exact ih2 _ _ _ _ _ _ _ _ _ _
   | exact examboardref10_number.mono _ _ _
   | exact LeO.none _
   | refine LeO.ite ?_ ?_
   | refine LeO.bind ?_ (fun _ => ?_)
theorem examboardref10_node.mono : ∀ a0 a1 a2 k, LeO (examboardref10_node.f k a0 a1 a2) (examboardref10_node.f (k + 1) a0 a1 a2) := by
 intro a0 a1 a2 k
 obtain ⟨ih0, ih1, ih2⟩ := examboardref10_node.mono_l k
 exact ih0 a0 a1 a2
set_option maxHeartbeats 8000000 in
set_option maxRecDepth 100000 in
theorem examboardref10_node.calls (k : Nat) : ∀ (A0 : Option Addr) (c0 : Nat) (l0 : List Int) (a1 : Int) (a2 : Int) (r1 : Int) (r2 : Int) (r3 : Int) (r4 : ByteArray) (r5 : List (S43)) (r6 : Int) (r7 : Int) (w : World) (hr0 : Kd.C (Kd.int .u8) w A0 l0.length l0) (hc0 : l0.length ≤ c0) (h : examboardref10_node.f k l0 a1 a2 = some (r1, r2, r3, r4, r5, r6, r7)),
  Calls Tryd.prog 71 #[.slice A0 l0.length c0, .int .i64 a1, .int .i64 a2] w fun e w' => ∃ v4_ : Value, e = .returned (.tuple #[.agg #[.int .i64 r1, .int .i64 r2, .int .i64 r3, .string r4, v4_], .int .i64 r6, .int .i64 r7]) ∧ Kd.V k43 43 w' w.heap.size (fun k_ => (w.heap.size ≤ k_)) v4_ r5 ∧ Below w.heap.size w w' := by
 induction k using Nat.strongRecOn with
 | _ k ih =>
 intro A0 c0 l0 a1 a2 r1 r2 r3 r4 r5 r6 r7 w hr0 hc0 h
 cases k with
 | zero => exact absurd h (by simp [examboardref10_node.f])
 | succ k =>
 simp only [examboardref10_node.f] at h
 have hu43 := Tryd.underlying43
 have HR0 := am hr0
 have HC0 := am hc0
 clear hr0 hc0
 have HB := am (Below.refl w.heap.size w)
 have H : (if a2 > 8 then (some (0, 0, 0, (⟨#[]⟩ : ByteArray), ([] : List (S43)), 0, 5)) else ((examboardref10_number.f k l0 a1).bind fun bt474 => (if bt474.2.2 = 0 then (if bt474.1 > 9999999 then (some (0, 0, 0, (⟨#[]⟩ : ByteArray), ([] : List (S43)), 0, 3)) else ((examboardref10_need.f l0 bt474.2.1 1).bind fun t477 => (if t477 = 0 then (if 0 ≤ bt474.2.1 then (if bt474.2.1 < (l0.length : Int) then (if (wrap64 (rd l0 bt474.2.1)) < 1 then (examboardref10_node.j0 k l0 bt474.2.1 a2 true (wrap64 (bt474.1)) (wrap64 (rd l0 bt474.2.1)) 0 (⟨#[]⟩ : ByteArray)) else (examboardref10_node.j0 k l0 bt474.2.1 a2 (decide ((wrap64 (rd l0 bt474.2.1)) > 3)) (wrap64 (bt474.1)) (wrap64 (rd l0 bt474.2.1)) 0 (⟨#[]⟩ : ByteArray))) else (none)) else (none)) else (some (0, 0, 0, (⟨#[]⟩ : ByteArray), ([] : List (S43)), 0, t477))))) else (some (0, 0, 0, (⟨#[]⟩ : ByteArray), ([] : List (S43)), 0, bt474.2.2))))) = some (r1, r2, r3, r4, r5, r6, r7) := h
 clear h
 by_cases c4 : a2 > 8
 ·
  rw [if_pos c4] at H
  have c4b0 : decide (8 < a2) = true := decide_eq_true c4
  clear c4
  simp only [Option.some.injEq, Prod.mk.injEq] at H
  obtain ⟨rfl, rfl, rfl, rfl, rfl, rfl, rfl⟩ := H
  go_enter Tryd.func71, Tryd.ntmps71
  go_wp2_with (first | ((with_reducible refine gate_dst (N := 6) rfl ?_); refine box_event rfl (N := 6) rfl (cs := #[.int .i64 0, .int .i64 0, .int .i64 0, .string (⟨#[]⟩ : ByteArray), .slice none 0 0]) (t := 43) gz ?_; intro gb473 hg w5 hbox hb; have BK473 := am (hbox); have GW473 := am ((bs hg (hz HB.out) : w.heap.size ≤ gb473)); have GE473 := am ((bs hg (hz HB.out) : w.heap.size ≤ gb473)); replace HB := am (below_step (hz HB.out) hb); clear hb hbox hg; obtain ⟨hcz6_0, hcz6_1, hcz6_2, hcz6_3, hcz6_4⟩ := cs5 BK473.out; obtain ⟨hfz6_0, hfz6_1, hfz6_2, hfz6_3, hfz6_4⟩ := fs5 BK473.out))
  refine bodyPost_ret (results_ctt rfl _ _ gb473 43 #[.int .i64 0, .int .i64 0, .int .i64 0, .string (⟨#[]⟩ : ByteArray), .slice none 0 0] (0, 0) _ rfl (bp BK473.out) Tryd.underlying43 rfl (by kernel_rfl)) rfl ?_
  exact ⟨_, ew, Kd.V_nil _ _ _ _ _, hz1 HB.out GE473.out⟩
 ·
  rw [if_neg c4] at H
  have c4b0 : decide (8 < a2) = false := decide_eq_false c4
  clear c4
  replace H := Option.bind_eq_some_iff.mp H
  obtain ⟨⟨t474, t475, t476⟩, A70, H⟩ := H
  try dsimp only at H
  have A7 := am A70
  clear A70
  by_cases c8 : t476 = 0
  ·
   rw [if_pos c8] at H
   have c8b0 : (t476 == 0) = true := beq_iff_eq.mpr c8
   have c8b1 : (t476 != 0) = false := bne_eq_false_iff_eq.mpr c8
   clear c8
   by_cases c9 : t474 > 9999999
   ·
    rw [if_pos c9] at H
    have c9b0 : decide (9999999 < t474) = true := decide_eq_true c9
    clear c9
    simp only [Option.some.injEq, Prod.mk.injEq] at H
    obtain ⟨rfl, rfl, rfl, rfl, rfl, rfl, rfl⟩ := H
    go_enter Tryd.func71, Tryd.ntmps71
    go_wp2_with (first | ((with_reducible refine gate_dst (N := 6) rfl ?_); refine box_event rfl (N := 6) rfl (cs := #[.int .i64 0, .int .i64 0, .int .i64 0, .string (⟨#[]⟩ : ByteArray), .slice none 0 0]) (t := 43) gz ?_; intro gb473 hg w10 hbox hb; have BK473 := am (hbox); have GW473 := am ((bs hg (hz HB.out) : w.heap.size ≤ gb473)); have GE473 := am ((bs hg (hz HB.out) : w.heap.size ≤ gb473)); replace HB := am (below_step (hz HB.out) hb); clear hb hbox hg) | ((with_reducible refine gate_callee (f := 75) rfl ?_); refine goesL_ (some 23) rfl rfl Tryd.func75 (by kernel_rfl) rfl #[.slice A0 l0.length c0, .int .i64 a1] rfl lz ?_; (with_reducible refine (examboardref10_number.calls k _ _ l0 a1 t474 t475 t476 _ ?side1 ?side2 A7.out).mono ?_); (case side1 => exact cz (Kd.C_below HR0.out HB.out)); (case side2 => exact HC0.out); rintro e w11 ⟨rfl, hb⟩; refine ⟨_, rfl, ?_⟩; replace BK473 := am (bw BK473.out hb); replace HB := am (below_step (hz1 HB.out GE473.out) hb); obtain ⟨hcz12_0, hcz12_1, hcz12_2, hcz12_3, hcz12_4⟩ := cs5 BK473.out; obtain ⟨hfz12_0, hfz12_1, hfz12_2, hfz12_3, hfz12_4⟩ := fs5 BK473.out))
    refine bodyPost_ret (results_ctt rfl _ _ gb473 43 #[.int .i64 0, .int .i64 0, .int .i64 0, .string (⟨#[]⟩ : ByteArray), .slice none 0 0] (0, 0) _ rfl (bp BK473.out) Tryd.underlying43 rfl (by kernel_rfl)) rfl ?_
    exact ⟨_, ew, Kd.V_nil _ _ _ _ _, hz1 HB.out GE473.out⟩
   ·
    rw [if_neg c9] at H
    have c9b0 : decide (9999999 < t474) = false := decide_eq_false c9
    clear c9
    replace H := Option.bind_eq_some_iff.mp H
    obtain ⟨t477, A130, H⟩ := H
    try dsimp only at H
    have A13 := am A130
    clear A130
    by_cases c14 : t477 = 0
    ·
     rw [if_pos c14] at H
     have c14b0 : (t477 == 0) = true := beq_iff_eq.mpr c14
     have c14b1 : (t477 != 0) = false := bne_eq_false_iff_eq.mpr c14
     clear c14
     replace H := it_ H
     obtain ⟨c15, H⟩ := H
     have c15b0 : decide (0 ≤ t475) = true := decide_eq_true c15
     clear c15
     replace H := it_ H
     obtain ⟨c16, H⟩ := H
     have c16b0 : decide (t475 < (l0.length : Int)) = true := decide_eq_true c16
     clear c16
     have HC17 := am H
     clear H
     go_enter Tryd.func71, Tryd.ntmps71
     go_upto_region 12 with (first | ((with_reducible refine gate_dst (N := 6) rfl ?_); refine box_event rfl (N := 6) rfl (cs := #[.int .i64 0, .int .i64 0, .int .i64 0, .string (⟨#[]⟩ : ByteArray), .slice none 0 0]) (t := 43) gz ?_; intro gb473 hg w18 hbox hb; have BK473 := am (hbox); have GW473 := am ((bs hg (hz HB.out) : w.heap.size ≤ gb473)); have GE473 := am ((bs hg (hz HB.out) : w.heap.size ≤ gb473)); replace HB := am (below_step (hz HB.out) hb); clear hb hbox hg) | ((with_reducible refine gate_callee (f := 75) rfl ?_); refine goesL_ (some 23) rfl rfl Tryd.func75 (by kernel_rfl) rfl #[.slice A0 l0.length c0, .int .i64 a1] rfl lz ?_; (with_reducible refine (examboardref10_number.calls k _ _ l0 a1 t474 t475 t476 _ ?side1 ?side2 A7.out).mono ?_); (case side1 => exact cz (Kd.C_below HR0.out HB.out)); (case side2 => exact HC0.out); rintro e w19 ⟨rfl, hb⟩; refine ⟨_, rfl, ?_⟩; replace BK473 := am (bw BK473.out hb); replace HB := am (below_step (hz1 HB.out GE473.out) hb)) | ((with_reducible refine gate_callee (f := 76) rfl ?_); refine goesL_ (some 36) rfl rfl Tryd.func76 (by kernel_rfl) rfl #[.slice A0 l0.length c0, .int .i64 t475, .int .i64 1] rfl lz ?_; (with_reducible refine (examboardref10_need.calls _ _ l0 t475 1 t477 _ ?side1 ?side2 A13.out).mono ?_); (case side1 => exact cz (Kd.C_below HR0.out HB.out)); (case side2 => exact HC0.out); rintro e w20 ⟨rfl, hb⟩; refine ⟨_, rfl, ?_⟩; replace BK473 := am (bw BK473.out hb); replace HB := am (below_step (hz1 HB.out GE473.out) hb); have p478 : 0 ≤ (t475 : Int) := of_decide_eq_true az; have q478 : t475 < (l0.length : Int) := of_decide_eq_true az; obtain ⟨ad478, e478, hx478_0⟩ := Kd.at_int HR0.out t475 p478 q478; cases e478; replace hx478_0 := (HB.out.cell (World.block_lt_of_cell? w _ hx478_0)).trans hx478_0; replace p478 := eq_true p478; replace q478 := eq_true q478) | ((with_reducible refine gate_dst (N := 11) rfl ?_); refine box_event rfl (N := 11) rfl (cs := #[.int .i64 0, .int .i64 0, .int .i64 0, .string (⟨#[]⟩ : ByteArray), .slice none 0 0]) (t := 43) gz ?_; intro gb479 hg w21 hbox hb; have BK479 := am (hbox); have GW479 := am ((bs hg (hz1 HB.out GE473.out) : w.heap.size ≤ gb479)); have GE479 := am ((bs hg (hz1 HB.out GE473.out) : w.heap.size ≤ gb479)); replace HB := am (below_step (hz1 HB.out GE473.out) hb); have NB473_479 := am ((nl hg (bz BK473.out) : gb473 ≠ gb479)); have NB479_473 := am ((ng hg (bz BK473.out) : gb479 ≠ gb473)); replace BK473 := am (bw BK473.out hb); clear hb hbox hg; have hnb22 := NB479_473.out; have hnc22 := NB473_479.out; obtain ⟨hcz23_0, hcz23_1, hcz23_2, hcz23_3, hcz23_4⟩ := cs5 BK479.out; obtain ⟨hfz23_0, hfz23_1, hfz23_2, hfz23_3, hfz23_4⟩ := fs5 BK479.out))
     (try simp only [Act.put, List.setIfInBounds_toArray, List.set_cons_zero, List.set_cons_succ])
     go_cut [56] (fun v56 wc => ∃ (kq : Nat) (x56_16 : Bool), v56 = .bool x56_16 ∧ Aside0 (examboardref10_node.j0 kq l0 t475 a2 x56_16 (wrap64 (t474)) (wrap64 (rd l0 t475)) 0 (⟨#[]⟩ : ByteArray) = some (r1, r2, r3, r4, r5, r6, r7)) ∧ Aside0 (kq ≤ k) ∧ Aside0 (wc.heap[gb473]? = some (.cells #[.int .i64 0, .int .i64 0, .int .i64 0, .string (⟨#[]⟩ : ByteArray), (.slice none 0 0)] 43 (0, 0))) ∧ Aside0 (wc.heap[gb479]? = some (.cells #[.int .i64 (wrap64 (t474)), .int .i64 (wrap64 (rd l0 t475)), .int .i64 0, .string (⟨#[]⟩ : ByteArray), (.slice none 0 0)] 43 (0, 0))) ∧ Aside0 (Below w.heap.size w wc))
     case first =>
      have H := HC17.out
      clear HC17
      by_cases c24 : (wrap64 (rd l0 t475)) < 1
      ·
       rw [if_pos c24] at H
       have c24b0 : decide ((wrap64 (rd l0 t475)) < 1) = true := decide_eq_true c24
       clear c24
       (first | rw [c24b0] | (simp only [i64_w, i32_w]; rw [c24b0]) | skip)
       have H' := am H
       clear H
       have hnb25 := NB479_473.out
       have hnc25 := NB473_479.out
       have hcz26_0 : w21.cell? ⟨gb479, 0, none⟩ = some (.int .i64 0) := (blk_cell BK479.out 0).trans rfl
       have hcz26_1 : w21.cell? ⟨gb479, 1, none⟩ = some (.int .i64 0) := (blk_cell BK479.out 1).trans rfl
       have hcz26_2 : w21.cell? ⟨gb479, 2, none⟩ = some (.int .i64 0) := (blk_cell BK479.out 2).trans rfl
       have hcz26_3 : w21.cell? ⟨gb479, 3, none⟩ = some (.string (⟨#[]⟩ : ByteArray)) := (blk_cell BK479.out 3).trans rfl
       have hcz26_4 : w21.cell? ⟨gb479, 4, none⟩ = some (.slice none 0 0) := (blk_cell BK479.out 4).trans rfl
       have hfz26_0 := blk_frozen BK479.out 0
       have hfz26_1 := blk_frozen BK479.out 1
       have hfz26_2 := blk_frozen BK479.out 2
       have hfz26_3 := blk_frozen BK479.out 3
       have hfz26_4 := blk_frozen BK479.out 4
       go_wp2
       go_meet
       case rel => exact ⟨_, (true), rfz, H', ⟨by first | omega | exact Nat.le_refl _⟩, ⟨bf1 NB473_479.out BK473.out⟩, ⟨bp BK479.out⟩, ⟨hz2 HB.out GE473.out GE479.out⟩⟩
      ·
       rw [if_neg c24] at H
       have c24b0 : decide ((wrap64 (rd l0 t475)) < 1) = false := decide_eq_false c24
       clear c24
       (first | rw [c24b0] | (simp only [i64_w, i32_w]; rw [c24b0]) | skip)
       have H' := am H
       clear H
       have hnb27 := NB479_473.out
       have hnc27 := NB473_479.out
       have hcz28_0 : w21.cell? ⟨gb479, 0, none⟩ = some (.int .i64 0) := (blk_cell BK479.out 0).trans rfl
       have hcz28_1 : w21.cell? ⟨gb479, 1, none⟩ = some (.int .i64 0) := (blk_cell BK479.out 1).trans rfl
       have hcz28_2 : w21.cell? ⟨gb479, 2, none⟩ = some (.int .i64 0) := (blk_cell BK479.out 2).trans rfl
       have hcz28_3 : w21.cell? ⟨gb479, 3, none⟩ = some (.string (⟨#[]⟩ : ByteArray)) := (blk_cell BK479.out 3).trans rfl
       have hcz28_4 : w21.cell? ⟨gb479, 4, none⟩ = some (.slice none 0 0) := (blk_cell BK479.out 4).trans rfl
       have hfz28_0 := blk_frozen BK479.out 0
       have hfz28_1 := blk_frozen BK479.out 1
       have hfz28_2 := blk_frozen BK479.out 2
       have hfz28_3 := blk_frozen BK479.out 3
       have hfz28_4 := blk_frozen BK479.out 4
       go_wp2
       go_meet
       case rel => exact ⟨_, (decide ((wrap64 (rd l0 t475)) > 3)), rfz, H', ⟨by first | omega | exact Nat.le_refl _⟩, ⟨bf1 NB473_479.out BK473.out⟩, ⟨bp BK479.out⟩, ⟨hz2 HB.out GE473.out GE479.out⟩⟩
     case rest =>
      clear HC17
      obtain ⟨kq, x56_16, rfl, HA, HJ16, BK473, BK479, HB⟩ := hcut
      cases kq with
      | zero => exact absurd HA.out (by simp [examboardref10_node.j0])
      | succ kj16 =>
       have H := HA.out
       clear HA
       simp only [examboardref10_node.j0] at H
       by_cases c29 : x56_16 = true
       ·
        subst c29
        have H1 := H
        rw [if_pos rfl] at H1
        clear H
        have H := H1
        clear H1
        simp only [Option.some.injEq, Prod.mk.injEq] at H
        obtain ⟨rfl, rfl, rfl, rfl, rfl, rfl, rfl⟩ := H
        have hnb30 := NB473_479.out
        have hnc30 := NB479_473.out
        have hcz31_0 : wc.cell? ⟨gb473, 0, none⟩ = some (.int .i64 0) := (blk_cell BK473.out 0).trans rfl
        have hcz31_1 : wc.cell? ⟨gb473, 1, none⟩ = some (.int .i64 0) := (blk_cell BK473.out 1).trans rfl
        have hcz31_2 : wc.cell? ⟨gb473, 2, none⟩ = some (.int .i64 0) := (blk_cell BK473.out 2).trans rfl
        have hcz31_3 : wc.cell? ⟨gb473, 3, none⟩ = some (.string (⟨#[]⟩ : ByteArray)) := (blk_cell BK473.out 3).trans rfl
        have hcz31_4 : wc.cell? ⟨gb473, 4, none⟩ = some (.slice none 0 0) := (blk_cell BK473.out 4).trans rfl
        have hfz31_0 := blk_frozen BK473.out 0
        have hfz31_1 := blk_frozen BK473.out 1
        have hfz31_2 := blk_frozen BK473.out 2
        have hfz31_3 := blk_frozen BK473.out 3
        have hfz31_4 := blk_frozen BK473.out 4
        go_wp2
        refine bodyPost_ret (results_ctt rfl _ _ gb473 43 #[.int .i64 0, .int .i64 0, .int .i64 0, .string (⟨#[]⟩ : ByteArray), .slice none 0 0] (0, 0) _ rfl (bp BK473.out) Tryd.underlying43 rfl (by kernel_rfl)) rfl ?_
        exact ⟨_, ew, Kd.V_nil _ _ _ _ _, hz2 HB.out GE473.out GE479.out⟩
       ·
        replace c29 := Bool.eq_false_iff.mpr c29
        subst c29
        have H1 := H
        rw [if_neg (show ¬ (false = true) by decide)] at H1
        clear H
        have H := H1
        clear H1
        replace H := Option.bind_eq_some_iff.mp H
        obtain ⟨⟨t480, t481, t482⟩, A320, H⟩ := H
        try dsimp only at H
        have A32 := am A320
        clear A320
        by_cases c33 : t482 = 0
        ·
         rw [if_pos c33] at H
         have c33b0 : (t482 == 0) = true := beq_iff_eq.mpr c33
         have c33b1 : (t482 != 0) = false := bne_eq_false_iff_eq.mpr c33
         clear c33
         by_cases c34 : (wrap64 (rd l0 t475)) = 1
         ·
          rw [if_pos c34] at H
          have c34b0 : ((wrap64 (rd l0 t475)) == 1) = true := beq_iff_eq.mpr c34
          have c34b1 : ((wrap64 (rd l0 t475)) != 1) = false := bne_eq_false_iff_eq.mpr c34
          clear c34
          by_cases c35 : (Int.tmod t480 2) = 1
          ·
           rw [if_pos c35] at H
           have c35b0 : ((Int.tmod t480 2) == 1) = true := beq_iff_eq.mpr c35
           have c35b1 : ((Int.tmod t480 2) != 1) = false := bne_eq_false_iff_eq.mpr c35
           clear c35
           simp only [Option.some.injEq, Prod.mk.injEq] at H
           obtain ⟨rfl, rfl, rfl, rfl, rfl, rfl, rfl⟩ := H
           go_wp2_with (first | ((with_reducible refine gate_callee (f := 75) rfl ?_); refine goesL_ (some 62) rfl rfl Tryd.func75 (by kernel_rfl) rfl #[.slice (some ad478) l0.length c0, .int .i64 (wrap64 (t475 + 1))] rfl lz ?_; (with_reducible refine (examboardref10_number.calls kj16 _ _ l0 (wrap64 (t475 + 1)) t480 t481 t482 _ ?side1 ?side2 A32.out).mono ?_); (case side1 => exact cz (Kd.C_below HR0.out HB.out)); (case side2 => exact HC0.out); rintro e w36 ⟨rfl, hb⟩; refine ⟨_, rfl, ?_⟩; replace BK473 := am (bw BK473.out hb); replace BK479 := am (bw BK479.out hb); replace HB := am (below_step (hz2 HB.out GE473.out GE479.out) hb); have hnb37 := NB479_473.out; have hnc37 := NB473_479.out; obtain ⟨hcz38_0, hcz38_1, hcz38_2, hcz38_3, hcz38_4⟩ := cs5 BK479.out; obtain ⟨hfz38_0, hfz38_1, hfz38_2, hfz38_3, hfz38_4⟩ := fs5 BK479.out; obtain ⟨hcz39_0, hcz39_1, hcz39_2, hcz39_3, hcz39_4⟩ := cs5 BK473.out; obtain ⟨hfz39_0, hfz39_1, hfz39_2, hfz39_3, hfz39_4⟩ := fs5 BK473.out))
           refine bodyPost_ret (results_ctt rfl _ _ gb473 43 #[.int .i64 (wrap64 (t474)), .int .i64 (wrap64 (rd l0 t475)), .int .i64 (wrap64 ((wrap64 (-(wrap64 (IntKind.u64.wrap (Int.tdiv t480 2))))) - 1)), .string (⟨#[]⟩ : ByteArray), .slice none 0 0] (0, 0) _ rfl (by (with_reducible repeat (first | refine blk_drewN ?_ _ | refine blk_drew ?_ | refine blk_alloc ?_ _)); refine blk_put (cs := #[.int .i64 (wrap64 (t474)), .int .i64 (wrap64 (rd l0 t475)), .int .i64 (wrap64 ((wrap64 (-(wrap64 (IntKind.u64.wrap (Int.tdiv t480 2))))) - 1)), .string (⟨#[]⟩ : ByteArray), .slice none 0 0]) ?_ 4 _ rfl; (with_reducible repeat (first | refine blk_drewN ?_ _ | refine blk_drew ?_ | refine blk_alloc ?_ _)); refine blk_put (cs := #[.int .i64 (wrap64 (t474)), .int .i64 (wrap64 (rd l0 t475)), .int .i64 (wrap64 ((wrap64 (-(wrap64 (IntKind.u64.wrap (Int.tdiv t480 2))))) - 1)), .string (⟨#[]⟩ : ByteArray), .slice none 0 0]) ?_ 3 _ rfl; (with_reducible repeat (first | refine blk_drewN ?_ _ | refine blk_drew ?_ | refine blk_alloc ?_ _)); refine blk_put (cs := #[.int .i64 (wrap64 (t474)), .int .i64 (wrap64 (rd l0 t475)), .int .i64 0, .string (⟨#[]⟩ : ByteArray), .slice none 0 0]) ?_ 2 _ rfl; (with_reducible repeat (first | refine blk_drewN ?_ _ | refine blk_drew ?_ | refine blk_alloc ?_ _)); refine blk_put (cs := #[.int .i64 (wrap64 (t474)), .int .i64 0, .int .i64 0, .string (⟨#[]⟩ : ByteArray), .slice none 0 0]) ?_ 1 _ rfl; (with_reducible repeat (first | refine blk_drewN ?_ _ | refine blk_drew ?_ | refine blk_alloc ?_ _)); refine blk_put (cs := #[.int .i64 0, .int .i64 0, .int .i64 0, .string (⟨#[]⟩ : ByteArray), .slice none 0 0]) ?_ 0 _ rfl; (with_reducible repeat (first | refine blk_drewN ?_ _ | refine blk_drew ?_ | refine blk_alloc ?_ _)); refine blk_far ?_ NB473_479.out _; (with_reducible repeat (first | refine blk_drewN ?_ _ | refine blk_drew ?_ | refine blk_alloc ?_ _)); refine blk_far ?_ NB473_479.out _; (with_reducible repeat (first | refine blk_drewN ?_ _ | refine blk_drew ?_ | refine blk_alloc ?_ _)); exact BK473.out) Tryd.underlying43 rfl (by kernel_rfl)) rfl ?_
           exact ⟨_, ew, Kd.V_nil _ _ _ _ _, hz2 HB.out GE473.out GE479.out⟩
          ·
           rw [if_neg c35] at H
           have c35b0 : ((Int.tmod t480 2) == 1) = false := beq_eq_false_iff_ne.mpr c35
           have c35b1 : ((Int.tmod t480 2) != 1) = true := bne_iff_ne.mpr c35
           simp only [Option.some.injEq, Prod.mk.injEq] at H
           obtain ⟨rfl, rfl, rfl, rfl, rfl, rfl, rfl⟩ := H
           go_wp2_with (first | ((with_reducible refine gate_callee (f := 75) rfl ?_); refine goesL_ (some 62) rfl rfl Tryd.func75 (by kernel_rfl) rfl #[.slice (some ad478) l0.length c0, .int .i64 (wrap64 (t475 + 1))] rfl lz ?_; (with_reducible refine (examboardref10_number.calls kj16 _ _ l0 (wrap64 (t475 + 1)) t480 t481 t482 _ ?side1 ?side2 A32.out).mono ?_); (case side1 => exact cz (Kd.C_below HR0.out HB.out)); (case side2 => exact HC0.out); rintro e w40 ⟨rfl, hb⟩; refine ⟨_, rfl, ?_⟩; replace BK473 := am (bw BK473.out hb); replace BK479 := am (bw BK479.out hb); replace HB := am (below_step (hz2 HB.out GE473.out GE479.out) hb); have hnb41 := NB479_473.out; have hnc41 := NB473_479.out; obtain ⟨hcz42_0, hcz42_1, hcz42_2, hcz42_3, hcz42_4⟩ := cs5 BK479.out; obtain ⟨hfz42_0, hfz42_1, hfz42_2, hfz42_3, hfz42_4⟩ := fs5 BK479.out; obtain ⟨hcz43_0, hcz43_1, hcz43_2, hcz43_3, hcz43_4⟩ := cs5 BK473.out; obtain ⟨hfz43_0, hfz43_1, hfz43_2, hfz43_3, hfz43_4⟩ := fs5 BK473.out))
           refine bodyPost_ret (results_ctt rfl _ _ gb473 43 #[.int .i64 (wrap64 (t474)), .int .i64 (wrap64 (rd l0 t475)), .int .i64 (wrap64 (IntKind.u64.wrap (Int.tdiv t480 2))), .string (⟨#[]⟩ : ByteArray), .slice none 0 0] (0, 0) _ rfl (by (with_reducible repeat (first | refine blk_drewN ?_ _ | refine blk_drew ?_ | refine blk_alloc ?_ _)); refine blk_put (cs := #[.int .i64 (wrap64 (t474)), .int .i64 (wrap64 (rd l0 t475)), .int .i64 (wrap64 (IntKind.u64.wrap (Int.tdiv t480 2))), .string (⟨#[]⟩ : ByteArray), .slice none 0 0]) ?_ 4 _ rfl; (with_reducible repeat (first | refine blk_drewN ?_ _ | refine blk_drew ?_ | refine blk_alloc ?_ _)); refine blk_put (cs := #[.int .i64 (wrap64 (t474)), .int .i64 (wrap64 (rd l0 t475)), .int .i64 (wrap64 (IntKind.u64.wrap (Int.tdiv t480 2))), .string (⟨#[]⟩ : ByteArray), .slice none 0 0]) ?_ 3 _ rfl; (with_reducible repeat (first | refine blk_drewN ?_ _ | refine blk_drew ?_ | refine blk_alloc ?_ _)); refine blk_put (cs := #[.int .i64 (wrap64 (t474)), .int .i64 (wrap64 (rd l0 t475)), .int .i64 0, .string (⟨#[]⟩ : ByteArray), .slice none 0 0]) ?_ 2 _ rfl; (with_reducible repeat (first | refine blk_drewN ?_ _ | refine blk_drew ?_ | refine blk_alloc ?_ _)); refine blk_put (cs := #[.int .i64 (wrap64 (t474)), .int .i64 0, .int .i64 0, .string (⟨#[]⟩ : ByteArray), .slice none 0 0]) ?_ 1 _ rfl; (with_reducible repeat (first | refine blk_drewN ?_ _ | refine blk_drew ?_ | refine blk_alloc ?_ _)); refine blk_put (cs := #[.int .i64 0, .int .i64 0, .int .i64 0, .string (⟨#[]⟩ : ByteArray), .slice none 0 0]) ?_ 0 _ rfl; (with_reducible repeat (first | refine blk_drewN ?_ _ | refine blk_drew ?_ | refine blk_alloc ?_ _)); refine blk_far ?_ NB473_479.out _; (with_reducible repeat (first | refine blk_drewN ?_ _ | refine blk_drew ?_ | refine blk_alloc ?_ _)); exact BK473.out) Tryd.underlying43 rfl (by kernel_rfl)) rfl ?_
           exact ⟨_, ew, Kd.V_nil _ _ _ _ _, hz2 HB.out GE473.out GE479.out⟩
         ·
          rw [if_neg c34] at H
          have c34b0 : ((wrap64 (rd l0 t475)) == 1) = false := beq_eq_false_iff_ne.mpr c34
          have c34b1 : ((wrap64 (rd l0 t475)) != 1) = true := bne_iff_ne.mpr c34
          by_cases c44 : (wrap64 (rd l0 t475)) = 2
          ·
           rw [if_pos c44] at H
           have c44b0 : ((wrap64 (rd l0 t475)) == 2) = true := beq_iff_eq.mpr c44
           have c44b1 : ((wrap64 (rd l0 t475)) != 2) = false := bne_eq_false_iff_eq.mpr c44
           clear c44
           replace H := Option.bind_eq_some_iff.mp H
           obtain ⟨⟨t483, t484, t485, t486, t487, t490, t491⟩, A450, H⟩ := H
           try dsimp only at H
           have A45 := am A450
           clear A450
           simp only [Option.some.injEq, Prod.mk.injEq] at H
           obtain ⟨rfl, rfl, rfl, rfl, rfl, rfl, rfl⟩ := H
           go_wp2_with (first | ((with_reducible refine gate_callee (f := 75) rfl ?_); refine goesL_ (some 62) rfl rfl Tryd.func75 (by kernel_rfl) rfl #[.slice (some ad478) l0.length c0, .int .i64 (wrap64 (t475 + 1))] rfl lz ?_; (with_reducible refine (examboardref10_number.calls kj16 _ _ l0 (wrap64 (t475 + 1)) t480 t481 t482 _ ?side1 ?side2 A32.out).mono ?_); (case side1 => exact cz (Kd.C_below HR0.out HB.out)); (case side2 => exact HC0.out); rintro e w46 ⟨rfl, hb⟩; refine ⟨_, rfl, ?_⟩; replace BK473 := am (bw BK473.out hb); replace BK479 := am (bw BK479.out hb); replace HB := am (below_step (hz2 HB.out GE473.out GE479.out) hb); have hnb47 := NB479_473.out; have hnc47 := NB473_479.out; obtain ⟨hcz48_0, hcz48_1, hcz48_2, hcz48_3, hcz48_4⟩ := cs5 BK479.out; obtain ⟨hfz48_0, hfz48_1, hfz48_2, hfz48_3, hfz48_4⟩ := fs5 BK479.out) | ((with_reducible refine gate_callee (f := 77) rfl ?_); refine goesL_ (some 94) rfl rfl Tryd.func77 (by kernel_rfl) rfl #[.slice (some ad478) l0.length c0, .int .i64 t481, .int .u64 t480, .agg #[.int .i64 (wrap64 (t474)), .int .i64 (wrap64 (rd l0 t475)), .int .i64 0, .string (⟨#[]⟩ : ByteArray), .slice none 0 0]] rfl lz ?_; (refine (examboardref10_text.calls _ _ l0 t481 t480 (wrap64 (t474)) (wrap64 (rd l0 t475)) 0 (⟨#[]⟩ : ByteArray) (fun k_ => False) _ _ ([] : List (S43)) t483 t484 t485 t486 t487 t490 t491 _ ?side1 ?side2 ?side3 A45.out).mono ?_); (case side1 => exact cz (Kd.C_below HR0.out HB.out)); (case side2 => exact HC0.out); (case side3 => exact Kd.V_nil _ _ _ _ _); rintro e w49 ⟨v488, rfl, ho0, hb⟩; refine ⟨_, rfl, ?_⟩; have HO489 := am (Kd.V_lower (Kd.V_mono (ok' := fun k_ => (w.heap.size ≤ k_) ∧ k_ ≠ gb473 ∧ k_ ≠ gb479) ho0 (fun k_ hk_ => ⟨Or.elim hk_ (fun hs_ => (hs_).elim) (fun hn_ => (Nat.le_trans (below_size (hz2 HB.out GE473.out GE479.out)) hn_)), Or.elim hk_ (fun hs_ => (hs_).elim) (fun hn_ => (Kd.freshB (g := gb473) (o := .cells #[.int .i64 0, .int .i64 0, .int .i64 0, .string (⟨#[]⟩ : ByteArray), .slice none 0 0] 43 (0, 0)) (bz BK473.out) k_ hn_)), Or.elim hk_ (fun hs_ => (hs_).elim) (fun hn_ => (Kd.freshB (g := gb479) (o := .cells #[.int .i64 (wrap64 (t474)), .int .i64 (wrap64 (rd l0 t475)), .int .i64 0, .string (⟨#[]⟩ : ByteArray), .slice none 0 0] 43 (0, 0)) (bz BK479.out) k_ hn_))⟩)) (below_size (hz2 HB.out GE473.out GE479.out))); replace BK473 := am (bw BK473.out hb); replace BK479 := am (bw BK479.out hb); replace HB := am (below_step (hz2 HB.out GE473.out GE479.out) hb); obtain ⟨hcz50_0, hcz50_1, hcz50_2, hcz50_3, hcz50_4⟩ := cs5 BK473.out; obtain ⟨hfz50_0, hfz50_1, hfz50_2, hfz50_3, hfz50_4⟩ := fs5 BK473.out; obtain ⟨Ao51, co51, eo51⟩ := Kd.V_slice HO489.out; subst eo51))
           refine bodyPost_ret (results_ctt rfl _ _ gb473 43 #[.int .i64 t483, .int .i64 t484, .int .i64 t485, .string t486, .slice Ao51 t487.length co51] (0, 0) _ rfl (bp BK473.out) Tryd.underlying43 rfl (by kernel_rfl)) rfl ?_
           exact ⟨_, ew, by (with_reducible repeat (first | apply Kd.V_alloc | apply Kd.V_drewN | apply Kd.V_drew)); exact Kd.V_mono (Kd.V_far (p := ⟨gb473, 4, none⟩) (Kd.V_far (p := ⟨gb473, 3, none⟩) (Kd.V_far (p := ⟨gb473, 2, none⟩) (Kd.V_far (p := ⟨gb473, 1, none⟩) (Kd.V_far (p := ⟨gb473, 0, none⟩) (Kd.V_mono HO489.out (fun k_ hk => (⟨hk, hk.2.1⟩ : _ ∧ k_ ≠ gb473))) (fun _ hk => hk.2) (.int .i64 t483)) (fun _ hk => hk.2) (.int .i64 t484)) (fun _ hk => hk.2) (.int .i64 t485)) (fun _ hk => hk.2) (.string t486)) (fun _ hk => hk.2) (.slice Ao51 t487.length co51)) (fun _ hk => hk.1.1), hz2 HB.out GE473.out GE479.out⟩
          ·
           rw [if_neg c44] at H
           have c44b0 : ((wrap64 (rd l0 t475)) == 2) = false := beq_eq_false_iff_ne.mpr c44
           have c44b1 : ((wrap64 (rd l0 t475)) != 2) = true := bne_iff_ne.mpr c44
           by_cases c52 : t480 > 1024
           ·
            rw [if_pos c52] at H
            have c52b0 : decide (1024 < t480) = true := decide_eq_true c52
            clear c52
            simp only [Option.some.injEq, Prod.mk.injEq] at H
            obtain ⟨rfl, rfl, rfl, rfl, rfl, rfl, rfl⟩ := H
            go_wp2_with (first | ((with_reducible refine gate_callee (f := 75) rfl ?_); refine goesL_ (some 62) rfl rfl Tryd.func75 (by kernel_rfl) rfl #[.slice (some ad478) l0.length c0, .int .i64 (wrap64 (t475 + 1))] rfl lz ?_; (with_reducible refine (examboardref10_number.calls kj16 _ _ l0 (wrap64 (t475 + 1)) t480 t481 t482 _ ?side1 ?side2 A32.out).mono ?_); (case side1 => exact cz (Kd.C_below HR0.out HB.out)); (case side2 => exact HC0.out); rintro e w53 ⟨rfl, hb⟩; refine ⟨_, rfl, ?_⟩; replace BK473 := am (bw BK473.out hb); replace BK479 := am (bw BK479.out hb); replace HB := am (below_step (hz2 HB.out GE473.out GE479.out) hb); have hnb54 := NB479_473.out; have hnc54 := NB473_479.out; obtain ⟨hcz55_0, hcz55_1, hcz55_2, hcz55_3, hcz55_4⟩ := cs5 BK479.out; obtain ⟨hfz55_0, hfz55_1, hfz55_2, hfz55_3, hfz55_4⟩ := fs5 BK479.out; obtain ⟨hcz56_0, hcz56_1, hcz56_2, hcz56_3, hcz56_4⟩ := cs5 BK473.out; obtain ⟨hfz56_0, hfz56_1, hfz56_2, hfz56_3, hfz56_4⟩ := fs5 BK473.out))
            refine bodyPost_ret (results_ctt rfl _ _ gb473 43 #[.int .i64 0, .int .i64 0, .int .i64 0, .string (⟨#[]⟩ : ByteArray), .slice none 0 0] (0, 0) _ rfl (bp BK473.out) Tryd.underlying43 rfl (by kernel_rfl)) rfl ?_
            exact ⟨_, ew, Kd.V_nil _ _ _ _ _, hz2 HB.out GE473.out GE479.out⟩
           ·
            rw [if_neg c52] at H
            have c52b0 : decide (1024 < t480) = false := decide_eq_false c52
            clear c52
            have H' := am H
            clear H
            go_wp2_with (first | ((with_reducible refine gate_callee (f := 75) rfl ?_); refine goesL_ (some 62) rfl rfl Tryd.func75 (by kernel_rfl) rfl #[.slice (some ad478) l0.length c0, .int .i64 (wrap64 (t475 + 1))] rfl lz ?_; (with_reducible refine (examboardref10_number.calls kj16 _ _ l0 (wrap64 (t475 + 1)) t480 t481 t482 _ ?side1 ?side2 A32.out).mono ?_); (case side1 => exact cz (Kd.C_below HR0.out HB.out)); (case side2 => exact HC0.out); rintro e w57 ⟨rfl, hb⟩; refine ⟨_, rfl, ?_⟩; replace BK473 := am (bw BK473.out hb); replace BK479 := am (bw BK479.out hb); replace HB := am (below_step (hz2 HB.out GE473.out GE479.out) hb); have hnb58 := NB479_473.out; have hnc58 := NB473_479.out; obtain ⟨hcz59_0, hcz59_1, hcz59_2, hcz59_3, hcz59_4⟩ := cs5 BK479.out; obtain ⟨hfz59_0, hfz59_1, hfz59_2, hfz59_3, hfz59_4⟩ := fs5 BK479.out))
            go_loopg [1, 13] kj16 (fun kq v1 v13 w' => ∃ (x1_2 : Int) (x13_2 : Int) (x474000_2 : Int) (x474001_2 : Int) (x474002_2 : Int) (x474003_2 : ByteArray) (x480004_2 : List (S43)) (u480004 : Value), v1 = .int .i64 x1_2 ∧ v13 = .int .i64 x13_2 ∧ Aside0 (examboardref10_node.l0 kq l0 x1_2 a2 t480 x13_2 (wrap64 (t474)) (wrap64 (rd l0 t475)) 0 (⟨#[]⟩ : ByteArray) x480004_2 = some (r1, r2, r3, r4, r5, r6, r7)) ∧ Aside0 (kq ≤ kj16) ∧ Aside0 (Kd.N k43 43 w' w.heap.size (fun k_ => (w.heap.size ≤ k_) ∧ k_ ≠ gb473 ∧ k_ ≠ gb479) u480004 x480004_2) ∧ Aside0 (w'.heap[gb473]? = some (.cells #[.int .i64 x474000_2, .int .i64 x474001_2, .int .i64 x474002_2, .string x474003_2, (.slice none 0 0)] 43 (0, 0))) ∧ Aside0 (w'.heap[gb479]? = some (.cells #[.int .i64 (wrap64 (t474)), .int .i64 (wrap64 (rd l0 t475)), .int .i64 0, .string (⟨#[]⟩ : ByteArray), u480004] 43 (0, 0))) ∧ Aside0 (Below w.heap.size w w'))
            case atStart => exact ⟨(t481), (0), (0), (0), (0), ((⟨#[]⟩ : ByteArray)), (([] : List (S43))), (.slice none 0 0), rfz, rfz, H', ⟨Nat.le_refl _⟩, ⟨nlz⟩, ⟨by (with_reducible repeat (first | refine blk_drewN ?_ _ | refine blk_drew ?_ | refine blk_alloc ?_ _)); exact BK473.out⟩, ⟨by (with_reducible repeat (first | refine blk_drewN ?_ _ | refine blk_drew ?_ | refine blk_alloc ?_ _)); exact BK479.out⟩, ⟨hz2 HB.out GE473.out GE479.out⟩⟩
            case round =>
             clear H'
             obtain ⟨x1_2, x13_2, x474000_2, x474001_2, x474002_2, x474003_2, x480004_2, u480004, rfl, rfl, HA, HK2, HO_480004, BK473, BK479, HB⟩ := hrel
             cases gk with
             | zero => exact absurd HA.out (by simp [examboardref10_node.l0])
             | succ k2 =>
              have H := HA.out
              clear HA
              simp only [examboardref10_node.l0] at H
              by_cases c60 : x13_2 < (wrap64 (t480))
              ·
               rw [if_pos c60] at H
               have c60b0 : decide (x13_2 < (wrap64 (t480))) = true := decide_eq_true c60
               clear c60
               replace H := Option.bind_eq_some_iff.mp H
               obtain ⟨⟨t492, t493, t494, t495, t496, t499, t500⟩, A610, H⟩ := H
               try dsimp only at H
               have A61 := am A610
               clear A610
               by_cases c62 : t500 = 0
               ·
                rw [if_pos c62] at H
                have c62b0 : (t500 == 0) = true := beq_iff_eq.mpr c62
                have c62b1 : (t500 != 0) = false := bne_eq_false_iff_eq.mpr c62
                clear c62
                replace H := it_ H
                obtain ⟨c63, H⟩ := H
                have LMc63 := am c63
                clear c63
                obtain ⟨y502, hy502⟩ : ∃ y_ : List (S43), y_ = (x480004_2 ++ [(⟨t492, t493, t494, t495, t496⟩ : S43)]) := ⟨_, rfl⟩
                replace H : (examboardref10_node.l0 k2 l0 t499 a2 t480 (wrap64 (x13_2 + 1)) (wrap64 (t474)) (wrap64 (rd l0 t475)) 0 (⟨#[]⟩ : ByteArray) y502) = some (r1, r2, r3, r4, r5, r6, r7) := by first | (rw [hy502]; with_reducible exact H) | (have H2_ := (Option.bind_some _ _).symm.trans H; rw [hy502]; with_reducible exact H2_) | (have H2_ := (Option.bind_some _ _).symm.trans H; with_reducible exact H2_) | with_reducible exact H | (rw [hy502]; exact H) | exact H
                have Ny502 := am hy502
                clear hy502
                have H' := am H
                clear H
                go_wp2_with (first | ((with_reducible refine gate_callee (f := 71) rfl ?_); refine goesL_ (some 112) rfl rfl Tryd.func71 (by kernel_rfl) rfl #[.slice (some ad478) l0.length c0, .int .i64 x1_2, .int .i64 (wrap64 (a2 + 1))] rfl lz ?_; (with_reducible refine (ih k2 (by have := HJ16.out; have := HK2.out; omega) _ _ l0 x1_2 (wrap64 (a2 + 1)) t492 t493 t494 t495 t496 t499 t500 _ ?side1 ?side2 A61.out).mono ?_); (case side1 => exact cz (Kd.C_below HR0.out HB.out)); (case side2 => exact HC0.out); rintro e w64 ⟨v497, rfl, ho0, hb⟩; refine ⟨_, rfl, ?_⟩; have HO498 := am (Kd.V_lower (Kd.V_mono (ok' := fun k_ => (w.heap.size ≤ k_) ∧ some k_ ≠ (u480004 : Value).ownBlock ∧ k_ ≠ gb473 ∧ k_ ≠ gb479) ho0 (fun k_ hk_ => ⟨(Nat.le_trans (below_size (hz2 HB.out GE473.out GE479.out)) hk_), (Kd.fresh' (Kd.N_lt (nz HO_480004.out)) k_ hk_), (Kd.freshB (g := gb473) (o := .cells #[.int .i64 x474000_2, .int .i64 x474001_2, .int .i64 x474002_2, .string x474003_2, .slice none 0 0] 43 (0, 0)) (bz BK473.out) k_ hk_), (Kd.freshB (g := gb479) (o := .cells #[.int .i64 (wrap64 (t474)), .int .i64 (wrap64 (rd l0 t475)), .int .i64 0, .string (⟨#[]⟩ : ByteArray), u480004] 43 (0, 0)) (bz BK479.out) k_ hk_)⟩)) (below_size (hz2 HB.out GE473.out GE479.out))); replace HO_480004 := am (Kd.N_below (nz HO_480004.out) hb); replace BK473 := am (blk_below (bz BK473.out) hb); replace BK479 := am (bw BK479.out hb); replace HB := am (below_step (hz2 HB.out GE473.out GE479.out) hb)) | ((with_reducible refine gate_dst (N := 14) rfl ?_); refine box_event rfl (N := 14) rfl (cs := #[.int .i64 0, .int .i64 0, .int .i64 0, .string (⟨#[]⟩ : ByteArray), .slice none 0 0]) (t := 43) gz ?_; intro gb501 hg w65 hbox hb; replace HO_480004 := am (Kd.N_below (Kd.N_elderB (nz HO_480004.out) gb501 (Nat.le_of_eq hg.symm)) hb); replace HO498 := am (Kd.V_below (Kd.V_elderB (vz HO498.out) gb501 (Nat.le_of_eq hg.symm)) hb); have BK501 := am (hbox); have GW501 := am ((bs hg (hz2 HB.out GE473.out GE479.out) : w.heap.size ≤ gb501)); have GE501 := am ((bs hg (hz2 HB.out GE473.out GE479.out) : w.heap.size ≤ gb501)); replace HB := am (below_step (hz2 HB.out GE473.out GE479.out) hb); have NB473_501 := am ((nl hg (bz BK473.out) : gb473 ≠ gb501)); have NB501_473 := am ((ng hg (bz BK473.out) : gb501 ≠ gb473)); replace BK473 := am (blk_below (bz BK473.out) hb); have NB479_501 := am ((nl hg (bz BK479.out) : gb479 ≠ gb501)); have NB501_479 := am ((ng hg (bz BK479.out) : gb501 ≠ gb479)); replace BK479 := am (bw BK479.out hb); clear hb hbox hg; have hnb66 := NB501_473.out; have hnc66 := NB473_501.out; have hnb67 := NB501_479.out; have hnc67 := NB479_501.out; obtain ⟨hcz68_0, hcz68_1, hcz68_2, hcz68_3, hcz68_4⟩ := cs5 BK501.out; obtain ⟨hfz68_0, hfz68_1, hfz68_2, hfz68_3, hfz68_4⟩ := fs5 BK501.out; obtain ⟨Ao69, co69, eo69⟩ := Kd.V_slice HO498.out; subst eo69) | ((with_reducible refine gate_store (t := 43) (p := 14) rfl ?_); refine store_event (t := 43) (p := 14) (v := ?vo_w70) (w1 := (((((w65.setCell ⟨gb501, 0, none⟩ (.int .i64 t492)).setCell ⟨gb501, 1, none⟩ (.int .i64 t493)).setCell ⟨gb501, 2, none⟩ (.int .i64 t494)).setCell ⟨gb501, 3, none⟩ (.string t495)).setCell ⟨gb501, 4, none⟩ (.slice Ao69 t496.length co69))) ?hg ?ho ?hn ?hr ?_; (case ho => rfl); (case hg => rfl); (case hn => rfl); (case hr => exact gz); intro w70 hw; replace HO_480004 : Aside0 (Kd.N k43 43 w70 w.heap.size (fun k_ => (w.heap.size ≤ k_) ∧ k_ ≠ gb473 ∧ k_ ≠ gb479 ∧ k_ ≠ gb501) u480004 x480004_2) := ⟨(by rw [hw]; exact (nz (Kd.N_mono (Kd.N_far (p := ⟨gb501, 4, none⟩) (Kd.N_far (p := ⟨gb501, 3, none⟩) (Kd.N_far (p := ⟨gb501, 2, none⟩) (Kd.N_far (p := ⟨gb501, 1, none⟩) (Kd.N_far (p := ⟨gb501, 0, none⟩) (Kd.N_mono HO_480004.out (fun k_ hk => (⟨hk, hk.2⟩ : _ ∧ k_ ≠ gb501))) (fun _ hk => hk.2) (.int .i64 t492)) (fun _ hk => hk.2) (.int .i64 t493)) (fun _ hk => hk.2) (.int .i64 t494)) (fun _ hk => hk.2) (.string t495)) (fun _ hk => hk.2) (.slice Ao69 t496.length co69)) (fun _ hk => ⟨hk.1.1.1, ⟨hk.1.1.2.1, ⟨hk.1.1.2.2, hk.1.2⟩⟩⟩))))⟩; replace HO498 : Aside0 (Kd.V k43 43 w70 w.heap.size (fun k_ => (w.heap.size ≤ k_) ∧ some k_ ≠ (u480004 : Value).ownBlock ∧ k_ ≠ gb473 ∧ k_ ≠ gb479 ∧ k_ ≠ gb501) (.slice Ao69 t496.length co69) t496) := ⟨(by rw [hw]; exact (vz (Kd.V_mono (Kd.V_far (p := ⟨gb501, 4, none⟩) (Kd.V_far (p := ⟨gb501, 3, none⟩) (Kd.V_far (p := ⟨gb501, 2, none⟩) (Kd.V_far (p := ⟨gb501, 1, none⟩) (Kd.V_far (p := ⟨gb501, 0, none⟩) (Kd.V_mono HO498.out (fun k_ hk => (⟨hk, hk.2⟩ : _ ∧ k_ ≠ gb501))) (fun _ hk => hk.2) (.int .i64 t492)) (fun _ hk => hk.2) (.int .i64 t493)) (fun _ hk => hk.2) (.int .i64 t494)) (fun _ hk => hk.2) (.string t495)) (fun _ hk => hk.2) (.slice Ao69 t496.length co69)) (fun _ hk => ⟨hk.1.1.1, ⟨hk.1.1.2.1, ⟨hk.1.1.2.2.1, ⟨hk.1.1.2.2.2, hk.1.2⟩⟩⟩⟩))))⟩; replace BK473 : Aside0 (w70.heap[gb473]? = some (.cells #[.int .i64 x474000_2, .int .i64 x474001_2, .int .i64 x474002_2, .string x474003_2, .slice none 0 0] 43 (0, 0))) := ⟨(by rw [hw]; exact (bf1 NB473_501.out BK473.out))⟩; replace BK479 : Aside0 (w70.heap[gb479]? = some (.cells #[.int .i64 (wrap64 (t474)), .int .i64 (wrap64 (rd l0 t475)), .int .i64 0, .string (⟨#[]⟩ : ByteArray), u480004] 43 (0, 0))) := ⟨(by rw [hw]; exact (bf1 NB479_501.out BK479.out))⟩; replace BK501 : Aside0 (w70.heap[gb501]? = some (.cells #[.int .i64 t492, .int .i64 t493, .int .i64 t494, .string t495, .slice Ao69 t496.length co69] 43 (0, 0))) := ⟨(by rw [hw]; exact (bp BK501.out))⟩; replace HB : Aside0 (Below w.heap.size w w70) := ⟨(by rw [hw]; exact (hz3 HB.out GE473.out GE479.out GE501.out))⟩; clear hw; have hnb71 := NB479_473.out; have hnc71 := NB473_479.out; obtain ⟨hcz72_0, hcz72_1, hcz72_2, hcz72_3, hcz72_4⟩ := cs5 BK479.out; obtain ⟨hfz72_0, hfz72_1, hfz72_2, hfz72_3, hfz72_4⟩ := fs5 BK479.out; obtain ⟨hcz73_0, hcz73_1, hcz73_2, hcz73_3, hcz73_4⟩ := cs5 BK501.out; obtain ⟨hfz73_0, hfz73_1, hfz73_2, hfz73_3, hfz73_4⟩ := fs5 BK501.out) | ((with_reducible refine gate_builtin (b := .append) (xs := #[.tmp 121, .tmp 123]) rfl ?_); at_builtin; refine Kd.N_append k43 (w0 := w) w.heap.size rfl (.tmp 121) (.tmp 123) 22 43 (.agg #[(.int .i64 0), (.int .i64 0), (.int .i64 0), (.string ⟨#[]⟩), (.slice none 0 0)]) 64 rfl Tryd.underlying22 info43 rfl (by decide) (by omega) u480004 x480004_2 (⟨t492, t493, t494, t495, t496⟩ : S43) [.int .i64 t492, .int .i64 t493, .int .i64 t494, .string t495, .slice Ao69 t496.length co69] (fun k_ => (w.heap.size ≤ k_) ∧ k_ ≠ gb473 ∧ k_ ≠ gb479 ∧ k_ ≠ gb501) (fun k_ => ((fun k_ => (w.heap.size ≤ k_) ∧ k_ ≠ gb473 ∧ k_ ≠ gb479 ∧ k_ ≠ gb501)) k_ ∧ some k_ ≠ (u480004 : Value).ownBlock) rfl rfl ?aP (fun _ hk => hk) ?aF ?aO ?aB ?aS ?aL ?_; (case aP => exact (k43_mkF _ _ (⟨t492, t493, t494, t495, t496⟩ : S43) (Kd.V_reads' (Kd.V_mono (ok' := (fun k_ => ((fun k_ => (w.heap.size ≤ k_) ∧ k_ ≠ gb473 ∧ k_ ≠ gb479 ∧ k_ ≠ gb501)) k_ ∧ some k_ ≠ (u480004 : Value).ownBlock)) (HO498.out) (fun k_ hk => ⟨⟨hk.1, ⟨hk.2.2.1, ⟨hk.2.2.2.1, hk.2.2.2.2⟩⟩⟩, hk.2.1⟩))).2.1 (Kd.V_F (vz (Kd.V_mono (ok' := (fun k_ => ((fun k_ => (w.heap.size ≤ k_) ∧ k_ ≠ gb473 ∧ k_ ≠ gb479 ∧ k_ ≠ gb501)) k_ ∧ some k_ ≠ (u480004 : Value).ownBlock)) (HO498.out) (fun k_ hk => ⟨⟨hk.1, ⟨hk.2.2.1, ⟨hk.2.2.2.1, hk.2.2.2.2⟩⟩⟩, hk.2.1⟩)))))); (case aB => exact (hz3 HB.out GE473.out GE479.out GE501.out)); (case aF => exact (fun k_ hk => ⟨(Nat.le_trans (below_size (hz3 HB.out GE473.out GE479.out GE501.out)) hk), Kd.freshB (g := gb473) (o := .cells #[.int .i64 x474000_2, .int .i64 x474001_2, .int .i64 x474002_2, .string x474003_2, .slice none 0 0] 43 (0, 0)) (bz BK473.out) k_ hk, Kd.freshB (g := gb479) (o := .cells #[.int .i64 (wrap64 (t474)), .int .i64 (wrap64 (rd l0 t475)), .int .i64 0, .string (⟨#[]⟩ : ByteArray), u480004] 43 (0, 0)) (bz BK479.out) k_ hk, Kd.freshB (g := gb501) (o := .cells #[.int .i64 t492, .int .i64 t493, .int .i64 t494, .string t495, .slice Ao69 t496.length co69] 43 (0, 0)) (bz BK501.out) k_ hk⟩)); (case aO => exact (nz HO_480004.out)); (case aS => exact (below_size (hz3 HB.out GE473.out GE479.out GE501.out))); (case aL => have := LMc63.out; omega); intro v503 w74 ho hb hg hat; rw [← Ny502.out] at ho; replace BK473 := am (blk_grown (bz BK473.out) hg (Kd.N_away HO_480004.out (fun _ hk => hk.2.1))); replace BK479 := am (blk_grown (g := gb479) (o := .cells #[.int .i64 (wrap64 (t474)), .int .i64 (wrap64 (rd l0 t475)), .int .i64 0, .string (⟨#[]⟩ : ByteArray), u480004] 43 (0, 0)) (bz BK479.out) hg (Kd.N_away HO_480004.out (fun _ hk => hk.2.2.1))); replace HO498 := am (Kd.V_afterv (ok := (fun k_ => (w.heap.size ≤ k_) ∧ k_ ≠ gb473 ∧ k_ ≠ gb479 ∧ k_ ≠ gb501)) (vz (Kd.V_mono HO498.out (fun _ hk => ⟨⟨hk.1, ⟨hk.2.2.1, ⟨hk.2.2.2.1, hk.2.2.2.2⟩⟩⟩, hk.2.1⟩))) hg hat); replace BK501 := am (blk_grown (bz BK501.out) hg (Kd.N_away HO_480004.out (fun _ hk => hk.2.2.2))); replace HB := am (hb); have HO504 := am (ho); clear HO_480004; clear ho hb hg hat; obtain ⟨Ao75, co75, eo75⟩ := Kd.N_slice HO504.out; subst eo75; obtain ⟨hcz76_0, hcz76_1, hcz76_2, hcz76_3, hcz76_4⟩ := cs5 BK479.out; obtain ⟨hfz76_0, hfz76_1, hfz76_2, hfz76_3, hfz76_4⟩ := fs5 BK479.out))
                go_roundg k2
                case measure => have := HJ16.out; have := HK2.out; omega
                case rel => exact ⟨(t499), (wrap64 (x13_2 + 1)), (x474000_2), (x474001_2), (x474002_2), (x474003_2), (y502), (.slice Ao75 y502.length co75), rfz, rfz, H', ⟨by have := HJ16.out; have := HK2.out; omega⟩, ⟨by (with_reducible repeat (first | apply Kd.N_alloc | apply Kd.N_drewN | apply Kd.N_drew)); exact Kd.N_mono (Kd.N_far (p := ⟨gb479, 4, none⟩) (Kd.N_mono HO504.out (fun k_ hk => (⟨hk, hk.2.2.1⟩ : _ ∧ k_ ≠ gb479))) (fun _ hk => hk.2) (.slice Ao75 y502.length co75)) (fun _ hk => ⟨hk.1.1, ⟨hk.1.2.1, hk.1.2.2.1⟩⟩)⟩, ⟨bf1 NB473_479.out BK473.out⟩, ⟨bp BK479.out⟩, ⟨hz3 HB.out GE473.out GE479.out GE501.out⟩⟩
               ·
                rw [if_neg c62] at H
                have c62b0 : (t500 == 0) = false := beq_eq_false_iff_ne.mpr c62
                have c62b1 : (t500 != 0) = true := bne_iff_ne.mpr c62
                simp only [Option.some.injEq, Prod.mk.injEq] at H
                obtain ⟨rfl, rfl, rfl, rfl, rfl, rfl, rfl⟩ := H
                go_wp2_with (first | ((with_reducible refine gate_callee (f := 71) rfl ?_); refine goesL_ (some 112) rfl rfl Tryd.func71 (by kernel_rfl) rfl #[.slice (some ad478) l0.length c0, .int .i64 x1_2, .int .i64 (wrap64 (a2 + 1))] rfl lz ?_; (with_reducible refine (ih k2 (by have := HJ16.out; have := HK2.out; omega) _ _ l0 x1_2 (wrap64 (a2 + 1)) t492 t493 t494 t495 t496 t499 t500 _ ?side1 ?side2 A61.out).mono ?_); (case side1 => exact cz (Kd.C_below HR0.out HB.out)); (case side2 => exact HC0.out); rintro e w77 ⟨v497, rfl, ho0, hb⟩; refine ⟨_, rfl, ?_⟩; have HO498 := am (Kd.V_lower (Kd.V_mono (ok' := fun k_ => (w.heap.size ≤ k_) ∧ some k_ ≠ (u480004 : Value).ownBlock ∧ k_ ≠ gb473 ∧ k_ ≠ gb479) ho0 (fun k_ hk_ => ⟨(Nat.le_trans (below_size (hz2 HB.out GE473.out GE479.out)) hk_), (Kd.fresh' (Kd.N_lt (nz HO_480004.out)) k_ hk_), (Kd.freshB (g := gb473) (o := .cells #[.int .i64 x474000_2, .int .i64 x474001_2, .int .i64 x474002_2, .string x474003_2, .slice none 0 0] 43 (0, 0)) (bz BK473.out) k_ hk_), (Kd.freshB (g := gb479) (o := .cells #[.int .i64 (wrap64 (t474)), .int .i64 (wrap64 (rd l0 t475)), .int .i64 0, .string (⟨#[]⟩ : ByteArray), u480004] 43 (0, 0)) (bz BK479.out) k_ hk_)⟩)) (below_size (hz2 HB.out GE473.out GE479.out))); replace HO_480004 := am (Kd.N_below (nz HO_480004.out) hb); replace BK473 := am (blk_below (bz BK473.out) hb); replace BK479 := am (bw BK479.out hb); replace HB := am (below_step (hz2 HB.out GE473.out GE479.out) hb)) | ((with_reducible refine gate_dst (N := 14) rfl ?_); refine box_event rfl (N := 14) rfl (cs := #[.int .i64 0, .int .i64 0, .int .i64 0, .string (⟨#[]⟩ : ByteArray), .slice none 0 0]) (t := 43) gz ?_; intro gb501 hg w78 hbox hb; replace HO_480004 := am (Kd.N_below (Kd.N_elderB (nz HO_480004.out) gb501 (Nat.le_of_eq hg.symm)) hb); replace HO498 := am (Kd.V_below (Kd.V_elderB (vz HO498.out) gb501 (Nat.le_of_eq hg.symm)) hb); have BK501 := am (hbox); have GW501 := am ((bs hg (hz2 HB.out GE473.out GE479.out) : w.heap.size ≤ gb501)); have GE501 := am ((bs hg (hz2 HB.out GE473.out GE479.out) : w.heap.size ≤ gb501)); replace HB := am (below_step (hz2 HB.out GE473.out GE479.out) hb); have NB473_501 := am ((nl hg (bz BK473.out) : gb473 ≠ gb501)); have NB501_473 := am ((ng hg (bz BK473.out) : gb501 ≠ gb473)); replace BK473 := am (blk_below (bz BK473.out) hb); have NB479_501 := am ((nl hg (bz BK479.out) : gb479 ≠ gb501)); have NB501_479 := am ((ng hg (bz BK479.out) : gb501 ≠ gb479)); replace BK479 := am (bw BK479.out hb); clear hb hbox hg; have hnb79 := NB501_473.out; have hnc79 := NB473_501.out; have hnb80 := NB501_479.out; have hnc80 := NB479_501.out; obtain ⟨hcz81_0, hcz81_1, hcz81_2, hcz81_3, hcz81_4⟩ := cs5 BK501.out; obtain ⟨hfz81_0, hfz81_1, hfz81_2, hfz81_3, hfz81_4⟩ := fs5 BK501.out; obtain ⟨Ao82, co82, eo82⟩ := Kd.V_slice HO498.out; subst eo82; have hnb83 := NB473_479.out; have hnc83 := NB479_473.out; obtain ⟨hcz84_0, hcz84_1, hcz84_2, hcz84_3, hcz84_4⟩ := cs5 BK473.out; obtain ⟨hfz84_0, hfz84_1, hfz84_2, hfz84_3, hfz84_4⟩ := fs5 BK473.out))
                refine bodyPost_ret (results_ctt rfl _ _ gb473 43 #[.int .i64 0, .int .i64 0, .int .i64 0, .string (⟨#[]⟩ : ByteArray), .slice none 0 0] (0, 0) _ rfl (by (with_reducible repeat (first | refine blk_drewN ?_ _ | refine blk_drew ?_ | refine blk_alloc ?_ _)); refine blk_put (cs := #[.int .i64 0, .int .i64 0, .int .i64 0, .string (⟨#[]⟩ : ByteArray), .slice none 0 0]) ?_ 4 _ rfl; (with_reducible repeat (first | refine blk_drewN ?_ _ | refine blk_drew ?_ | refine blk_alloc ?_ _)); refine blk_put (cs := #[.int .i64 0, .int .i64 0, .int .i64 0, .string x474003_2, .slice none 0 0]) ?_ 3 _ rfl; (with_reducible repeat (first | refine blk_drewN ?_ _ | refine blk_drew ?_ | refine blk_alloc ?_ _)); refine blk_put (cs := #[.int .i64 0, .int .i64 0, .int .i64 x474002_2, .string x474003_2, .slice none 0 0]) ?_ 2 _ rfl; (with_reducible repeat (first | refine blk_drewN ?_ _ | refine blk_drew ?_ | refine blk_alloc ?_ _)); refine blk_put (cs := #[.int .i64 0, .int .i64 x474001_2, .int .i64 x474002_2, .string x474003_2, .slice none 0 0]) ?_ 1 _ rfl; (with_reducible repeat (first | refine blk_drewN ?_ _ | refine blk_drew ?_ | refine blk_alloc ?_ _)); refine blk_put (cs := #[.int .i64 x474000_2, .int .i64 x474001_2, .int .i64 x474002_2, .string x474003_2, .slice none 0 0]) ?_ 0 _ rfl; (with_reducible repeat (first | refine blk_drewN ?_ _ | refine blk_drew ?_ | refine blk_alloc ?_ _)); refine blk_far ?_ NB473_501.out _; (with_reducible repeat (first | refine blk_drewN ?_ _ | refine blk_drew ?_ | refine blk_alloc ?_ _)); refine blk_far ?_ NB473_501.out _; (with_reducible repeat (first | refine blk_drewN ?_ _ | refine blk_drew ?_ | refine blk_alloc ?_ _)); refine blk_far ?_ NB473_501.out _; (with_reducible repeat (first | refine blk_drewN ?_ _ | refine blk_drew ?_ | refine blk_alloc ?_ _)); refine blk_far ?_ NB473_501.out _; (with_reducible repeat (first | refine blk_drewN ?_ _ | refine blk_drew ?_ | refine blk_alloc ?_ _)); refine blk_far ?_ NB473_501.out _; (with_reducible repeat (first | refine blk_drewN ?_ _ | refine blk_drew ?_ | refine blk_alloc ?_ _)); exact BK473.out) Tryd.underlying43 rfl (by kernel_rfl)) rfl ?_
                exact ⟨_, ew, Kd.V_nil _ _ _ _ _, hz3 HB.out GE473.out GE479.out GE501.out⟩
              ·
               rw [if_neg c60] at H
               have c60b0 : decide (x13_2 < (wrap64 (t480))) = false := decide_eq_false c60
               clear c60
               simp only [Option.some.injEq, Prod.mk.injEq] at H
               obtain ⟨rfl, rfl, rfl, rfl, rfl, rfl, rfl⟩ := H
               have hnb85 := NB479_473.out
               have hnc85 := NB473_479.out
               have hcz86_0 : wr.cell? ⟨gb479, 0, none⟩ = some (.int .i64 (wrap64 (t474))) := (blk_cell BK479.out 0).trans rfl
               have hcz86_1 : wr.cell? ⟨gb479, 1, none⟩ = some (.int .i64 (wrap64 (rd l0 t475))) := (blk_cell BK479.out 1).trans rfl
               have hcz86_2 : wr.cell? ⟨gb479, 2, none⟩ = some (.int .i64 0) := (blk_cell BK479.out 2).trans rfl
               have hcz86_3 : wr.cell? ⟨gb479, 3, none⟩ = some (.string (⟨#[]⟩ : ByteArray)) := (blk_cell BK479.out 3).trans rfl
               have hcz86_4 : wr.cell? ⟨gb479, 4, none⟩ = some (u480004) := (blk_cell BK479.out 4).trans rfl
               have hfz86_0 := blk_frozen BK479.out 0
               have hfz86_1 := blk_frozen BK479.out 1
               have hfz86_2 := blk_frozen BK479.out 2
               have hfz86_3 := blk_frozen BK479.out 3
               have hfz86_4 := blk_frozen BK479.out 4
               have hcz87_0 : wr.cell? ⟨gb473, 0, none⟩ = some (.int .i64 x474000_2) := (blk_cell BK473.out 0).trans rfl
               have hcz87_1 : wr.cell? ⟨gb473, 1, none⟩ = some (.int .i64 x474001_2) := (blk_cell BK473.out 1).trans rfl
               have hcz87_2 : wr.cell? ⟨gb473, 2, none⟩ = some (.int .i64 x474002_2) := (blk_cell BK473.out 2).trans rfl
               have hcz87_3 : wr.cell? ⟨gb473, 3, none⟩ = some (.string x474003_2) := (blk_cell BK473.out 3).trans rfl
               have hcz87_4 : wr.cell? ⟨gb473, 4, none⟩ = some (.slice none 0 0) := (blk_cell BK473.out 4).trans rfl
               have hfz87_0 := blk_frozen BK473.out 0
               have hfz87_1 := blk_frozen BK473.out 1
               have hfz87_2 := blk_frozen BK473.out 2
               have hfz87_3 := blk_frozen BK473.out 3
               have hfz87_4 := blk_frozen BK473.out 4
               obtain ⟨Ao88, co88, eo88⟩ := Kd.N_slice HO_480004.out
               subst eo88
               go_wp2
               refine bodyPost_ret (results_ctt rfl _ _ gb473 43 #[.int .i64 (wrap64 (t474)), .int .i64 (wrap64 (rd l0 t475)), .int .i64 0, .string (⟨#[]⟩ : ByteArray), .slice Ao88 x480004_2.length co88] (0, 0) _ rfl (bp BK473.out) Tryd.underlying43 rfl (by kernel_rfl)) rfl ?_
               exact ⟨_, ew, Kd.N_V (nz (Kd.N_mono (Kd.N_far (p := ⟨gb473, 4, none⟩) (Kd.N_far (p := ⟨gb473, 3, none⟩) (Kd.N_far (p := ⟨gb473, 2, none⟩) (Kd.N_far (p := ⟨gb473, 1, none⟩) (Kd.N_far (p := ⟨gb473, 0, none⟩) (Kd.N_mono HO_480004.out (fun k_ hk => (⟨hk, hk.2.1⟩ : _ ∧ k_ ≠ gb473))) (fun _ hk => hk.2) (.int .i64 (wrap64 (t474)))) (fun _ hk => hk.2) (.int .i64 (wrap64 (rd l0 t475)))) (fun _ hk => hk.2) (.int .i64 0)) (fun _ hk => hk.2) (.string (⟨#[]⟩ : ByteArray))) (fun _ hk => hk.2) (.slice Ao88 x480004_2.length co88)) (fun _ hk => hk.1.1))), hz2 HB.out GE473.out GE479.out⟩
        ·
         rw [if_neg c33] at H
         have c33b0 : (t482 == 0) = false := beq_eq_false_iff_ne.mpr c33
         have c33b1 : (t482 != 0) = true := bne_iff_ne.mpr c33
         simp only [Option.some.injEq, Prod.mk.injEq] at H
         obtain ⟨rfl, rfl, rfl, rfl, rfl, rfl, rfl⟩ := H
         go_wp2_with (first | ((with_reducible refine gate_callee (f := 75) rfl ?_); refine goesL_ (some 62) rfl rfl Tryd.func75 (by kernel_rfl) rfl #[.slice (some ad478) l0.length c0, .int .i64 (wrap64 (t475 + 1))] rfl lz ?_; (with_reducible refine (examboardref10_number.calls kj16 _ _ l0 (wrap64 (t475 + 1)) t480 t481 t482 _ ?side1 ?side2 A32.out).mono ?_); (case side1 => exact cz (Kd.C_below HR0.out HB.out)); (case side2 => exact HC0.out); rintro e w89 ⟨rfl, hb⟩; refine ⟨_, rfl, ?_⟩; replace BK473 := am (bw BK473.out hb); replace BK479 := am (bw BK479.out hb); replace HB := am (below_step (hz2 HB.out GE473.out GE479.out) hb); have hnb90 := NB473_479.out; have hnc90 := NB479_473.out; obtain ⟨hcz91_0, hcz91_1, hcz91_2, hcz91_3, hcz91_4⟩ := cs5 BK473.out; obtain ⟨hfz91_0, hfz91_1, hfz91_2, hfz91_3, hfz91_4⟩ := fs5 BK473.out))
         refine bodyPost_ret (results_ctt rfl _ _ gb473 43 #[.int .i64 0, .int .i64 0, .int .i64 0, .string (⟨#[]⟩ : ByteArray), .slice none 0 0] (0, 0) _ rfl (bp BK473.out) Tryd.underlying43 rfl (by kernel_rfl)) rfl ?_
         exact ⟨_, ew, Kd.V_nil _ _ _ _ _, hz2 HB.out GE473.out GE479.out⟩
    ·
     rw [if_neg c14] at H
     have c14b0 : (t477 == 0) = false := beq_eq_false_iff_ne.mpr c14
     have c14b1 : (t477 != 0) = true := bne_iff_ne.mpr c14
     simp only [Option.some.injEq, Prod.mk.injEq] at H
     obtain ⟨rfl, rfl, rfl, rfl, rfl, rfl, rfl⟩ := H
     go_enter Tryd.func71, Tryd.ntmps71
     go_wp2_with (first | ((with_reducible refine gate_dst (N := 6) rfl ?_); refine box_event rfl (N := 6) rfl (cs := #[.int .i64 0, .int .i64 0, .int .i64 0, .string (⟨#[]⟩ : ByteArray), .slice none 0 0]) (t := 43) gz ?_; intro gb473 hg w92 hbox hb; have BK473 := am (hbox); have GW473 := am ((bs hg (hz HB.out) : w.heap.size ≤ gb473)); have GE473 := am ((bs hg (hz HB.out) : w.heap.size ≤ gb473)); replace HB := am (below_step (hz HB.out) hb); clear hb hbox hg) | ((with_reducible refine gate_callee (f := 75) rfl ?_); refine goesL_ (some 23) rfl rfl Tryd.func75 (by kernel_rfl) rfl #[.slice A0 l0.length c0, .int .i64 a1] rfl lz ?_; (with_reducible refine (examboardref10_number.calls k _ _ l0 a1 t474 t475 t476 _ ?side1 ?side2 A7.out).mono ?_); (case side1 => exact cz (Kd.C_below HR0.out HB.out)); (case side2 => exact HC0.out); rintro e w93 ⟨rfl, hb⟩; refine ⟨_, rfl, ?_⟩; replace BK473 := am (bw BK473.out hb); replace HB := am (below_step (hz1 HB.out GE473.out) hb)) | ((with_reducible refine gate_callee (f := 76) rfl ?_); refine goesL_ (some 36) rfl rfl Tryd.func76 (by kernel_rfl) rfl #[.slice A0 l0.length c0, .int .i64 t475, .int .i64 1] rfl lz ?_; (with_reducible refine (examboardref10_need.calls _ _ l0 t475 1 t477 _ ?side1 ?side2 A13.out).mono ?_); (case side1 => exact cz (Kd.C_below HR0.out HB.out)); (case side2 => exact HC0.out); rintro e w94 ⟨rfl, hb⟩; refine ⟨_, rfl, ?_⟩; replace BK473 := am (bw BK473.out hb); replace HB := am (below_step (hz1 HB.out GE473.out) hb); obtain ⟨hcz95_0, hcz95_1, hcz95_2, hcz95_3, hcz95_4⟩ := cs5 BK473.out; obtain ⟨hfz95_0, hfz95_1, hfz95_2, hfz95_3, hfz95_4⟩ := fs5 BK473.out))
     refine bodyPost_ret (results_ctt rfl _ _ gb473 43 #[.int .i64 0, .int .i64 0, .int .i64 0, .string (⟨#[]⟩ : ByteArray), .slice none 0 0] (0, 0) _ rfl (bp BK473.out) Tryd.underlying43 rfl (by kernel_rfl)) rfl ?_
     exact ⟨_, ew, Kd.V_nil _ _ _ _ _, hz1 HB.out GE473.out⟩
  ·
   rw [if_neg c8] at H
   have c8b0 : (t476 == 0) = false := beq_eq_false_iff_ne.mpr c8
   have c8b1 : (t476 != 0) = true := bne_iff_ne.mpr c8
   simp only [Option.some.injEq, Prod.mk.injEq] at H
   obtain ⟨rfl, rfl, rfl, rfl, rfl, rfl, rfl⟩ := H
   go_enter Tryd.func71, Tryd.ntmps71
   go_wp2_with (first | ((with_reducible refine gate_dst (N := 6) rfl ?_); refine box_event rfl (N := 6) rfl (cs := #[.int .i64 0, .int .i64 0, .int .i64 0, .string (⟨#[]⟩ : ByteArray), .slice none 0 0]) (t := 43) gz ?_; intro gb473 hg w96 hbox hb; have BK473 := am (hbox); have GW473 := am ((bs hg (hz HB.out) : w.heap.size ≤ gb473)); have GE473 := am ((bs hg (hz HB.out) : w.heap.size ≤ gb473)); replace HB := am (below_step (hz HB.out) hb); clear hb hbox hg) | ((with_reducible refine gate_callee (f := 75) rfl ?_); refine goesL_ (some 23) rfl rfl Tryd.func75 (by kernel_rfl) rfl #[.slice A0 l0.length c0, .int .i64 a1] rfl lz ?_; (with_reducible refine (examboardref10_number.calls k _ _ l0 a1 t474 t475 t476 _ ?side1 ?side2 A7.out).mono ?_); (case side1 => exact cz (Kd.C_below HR0.out HB.out)); (case side2 => exact HC0.out); rintro e w97 ⟨rfl, hb⟩; refine ⟨_, rfl, ?_⟩; replace BK473 := am (bw BK473.out hb); replace HB := am (below_step (hz1 HB.out GE473.out) hb); obtain ⟨hcz98_0, hcz98_1, hcz98_2, hcz98_3, hcz98_4⟩ := cs5 BK473.out; obtain ⟨hfz98_0, hfz98_1, hfz98_2, hfz98_3, hfz98_4⟩ := fs5 BK473.out))
   refine bodyPost_ret (results_ctt rfl _ _ gb473 43 #[.int .i64 0, .int .i64 0, .int .i64 0, .string (⟨#[]⟩ : ByteArray), .slice none 0 0] (0, 0) _ rfl (bp BK473.out) Tryd.underlying43 rfl (by kernel_rfl)) rfl ?_
   exact ⟨_, ew, Kd.V_nil _ _ _ _ _, hz1 HB.out GE473.out⟩

/-! ### examboardref10_Decode: function 63 -/
def examboardref10_Decode.f (k : Nat) (l0 : List Int) : Option (Int × Int × Int × ByteArray × (List (S43)) × Int × Int) := (examboardref10_node.f k l0 0 1).bind fun bt506 => (some (bt506.1, bt506.2.1, bt506.2.2.1, bt506.2.2.2.1, bt506.2.2.2.2.1, bt506.2.2.2.2.2.1, bt506.2.2.2.2.2.2))
theorem examboardref10_Decode.mono : ∀ a0 k, LeO (examboardref10_Decode.f k a0) (examboardref10_Decode.f (k + 1) a0) := by
 intro a0 k
 unfold examboardref10_Decode.f
 repeat' first
   | (with_reducible exact examboardref10_node.mono _ _ _ _)
   | (with_reducible exact LeO.refl _)
   | (with_reducible exact LeO.none _)
   | (with_reducible refine LeO.ite ?_ ?_)
   | (with_reducible refine LeO.bind ?_ (fun _ => ?_))
   | exact examboardref10_node.mono _ _ _ _
   | exact LeO.none _
   | refine LeO.ite ?_ ?_
   | refine LeO.bind ?_ (fun _ => ?_)
set_option maxHeartbeats 8000000 in
set_option maxRecDepth 100000 in
theorem examboardref10_Decode.calls (k : Nat) (A0 : Option Addr) (c0 : Nat) (l0 : List Int) (r1 : Int) (r2 : Int) (r3 : Int) (r4 : ByteArray) (r5 : List (S43)) (r6 : Int) (r7 : Int) (w : World) (hr0 : Kd.C (Kd.int .u8) w A0 l0.length l0) (hc0 : l0.length ≤ c0) (h : examboardref10_Decode.f k l0 = some (r1, r2, r3, r4, r5, r6, r7)) :
  Calls Tryd.prog 63 #[.slice A0 l0.length c0] w fun e w' => ∃ v4_ : Value, e = .returned (.tuple #[.agg #[.int .i64 r1, .int .i64 r2, .int .i64 r3, .string r4, v4_], .int .i64 r6, .int .i64 r7]) ∧ Kd.V k43 43 w' w.heap.size (fun k_ => (w.heap.size ≤ k_)) v4_ r5 ∧ Below w.heap.size w w' := by
 have hu43 := Tryd.underlying43
 have HR0 := am hr0
 have HC0 := am hc0
 clear hr0 hc0
 have HB := am (Below.refl w.heap.size w)
 have H : ((examboardref10_node.f k l0 0 1).bind fun bt506 => (some (bt506.1, bt506.2.1, bt506.2.2.1, bt506.2.2.2.1, bt506.2.2.2.2.1, bt506.2.2.2.2.2.1, bt506.2.2.2.2.2.2))) = some (r1, r2, r3, r4, r5, r6, r7) := h
 clear h
 replace H := Option.bind_eq_some_iff.mp H
 obtain ⟨⟨t506, t507, t508, t509, t510, t513, t514⟩, A20, H⟩ := H
 try dsimp only at H
 have A2 := am A20
 clear A20
 simp only [Option.some.injEq, Prod.mk.injEq] at H
 obtain ⟨rfl, rfl, rfl, rfl, rfl, rfl, rfl⟩ := H
 go_enter Tryd.func63, Tryd.ntmps63
 go_wp2_with (first | ((with_reducible refine gate_dst (N := 2) rfl ?_); refine box_event rfl (N := 2) rfl (cs := #[.int .i64 0, .int .i64 0, .int .i64 0, .string (⟨#[]⟩ : ByteArray), .slice none 0 0]) (t := 43) gz ?_; intro gb505 hg w3 hbox hb; have BK505 := am (hbox); have GW505 := am ((bs hg (hz HB.out) : w.heap.size ≤ gb505)); have GE505 := am ((bs hg (hz HB.out) : w.heap.size ≤ gb505)); replace HB := am (below_step (hz HB.out) hb); clear hb hbox hg) | ((with_reducible refine gate_callee (f := 71) rfl ?_); refine goesL_ (some 6) rfl rfl Tryd.func71 (by kernel_rfl) rfl #[.slice A0 l0.length c0, .int .i64 0, .int .i64 1] rfl lz ?_; (with_reducible refine (examboardref10_node.calls k _ _ l0 0 1 t506 t507 t508 t509 t510 t513 t514 _ ?side1 ?side2 A2.out).mono ?_); (case side1 => exact cz (Kd.C_below HR0.out HB.out)); (case side2 => exact HC0.out); rintro e w4 ⟨v511, rfl, ho0, hb⟩; refine ⟨_, rfl, ?_⟩; have HO512 := am (Kd.V_lower (Kd.V_mono (ok' := fun k_ => (w.heap.size ≤ k_) ∧ k_ ≠ gb505) ho0 (fun k_ hk_ => ⟨(Nat.le_trans (below_size (hz1 HB.out GE505.out)) hk_), (Kd.freshB (g := gb505) (o := .cells #[.int .i64 0, .int .i64 0, .int .i64 0, .string (⟨#[]⟩ : ByteArray), .slice none 0 0] 43 (0, 0)) (bz BK505.out) k_ hk_)⟩)) (below_size (hz1 HB.out GE505.out))); replace BK505 := am (bw BK505.out hb); replace HB := am (below_step (hz1 HB.out GE505.out) hb); obtain ⟨hcz5_0, hcz5_1, hcz5_2, hcz5_3, hcz5_4⟩ := cs5 BK505.out; obtain ⟨hfz5_0, hfz5_1, hfz5_2, hfz5_3, hfz5_4⟩ := fs5 BK505.out; obtain ⟨Ao6, co6, eo6⟩ := Kd.V_slice HO512.out; subst eo6))
 refine bodyPost_ret (results_ctt rfl _ _ gb505 43 #[.int .i64 t506, .int .i64 t507, .int .i64 t508, .string t509, .slice Ao6 t510.length co6] (0, 0) _ rfl (bp BK505.out) Tryd.underlying43 rfl (by kernel_rfl)) rfl ?_
 exact ⟨_, ew, by (with_reducible repeat (first | apply Kd.V_alloc | apply Kd.V_drewN | apply Kd.V_drew)); exact Kd.V_mono (Kd.V_far (p := ⟨gb505, 4, none⟩) (Kd.V_far (p := ⟨gb505, 3, none⟩) (Kd.V_far (p := ⟨gb505, 2, none⟩) (Kd.V_far (p := ⟨gb505, 1, none⟩) (Kd.V_far (p := ⟨gb505, 0, none⟩) (Kd.V_mono HO512.out (fun k_ hk => (⟨hk, hk.2⟩ : _ ∧ k_ ≠ gb505))) (fun _ hk => hk.2) (.int .i64 t506)) (fun _ hk => hk.2) (.int .i64 t507)) (fun _ hk => hk.2) (.int .i64 t508)) (fun _ hk => hk.2) (.string t509)) (fun _ hk => hk.2) (.slice Ao6 t510.length co6)) (fun _ hk => hk.1.1), hz1 HB.out GE505.out⟩

/-! ### examboardref49_entry: function 48 -/
def examboardref49_entry.f (k : Nat) (l0 : List Int) (a1 : Int) (a2 : Int) : Option (Int × Int × Int × ByteArray × (List (S43)) × Int × Int × Int) := if a1 ≥ 300 then (some (0, 0, 0, (⟨#[]⟩ : ByteArray), ([] : List (S43)), 0, 0, 5)) else (if (l0.length : Int) < 4 then (some (0, 0, 0, (⟨#[]⟩ : ByteArray), ([] : List (S43)), 0, 0, 4)) else ((examboardref49_number.f k l0 4).bind fun t516 => (if t516 > 2000 then (some (0, 0, 0, (⟨#[]⟩ : ByteArray), ([] : List (S43)), 0, 0, 5)) else (if (l0.length : Int) < (wrap64 ((wrap64 (4 + (wrap64 (t516)))) + 8)) then (some (0, 0, 0, (⟨#[]⟩ : ByteArray), ([] : List (S43)), 0, 0, 4)) else (if 0 ≤ (wrap64 (4 + (wrap64 (t516)))) then (if (wrap64 (4 + (wrap64 (t516)))) ≤ (l0.length : Int) then ((examboardref11_Chain.f k a2 (l0.take ((wrap64 (4 + (wrap64 (t516)))) : Int).toNat)).bind fun t518 => ((examboardref49_number.f k (l0.drop ((wrap64 (4 + (wrap64 (t516)))) : Int).toNat) 8).bind fun t520 => (if t520 = t518 then (if 4 ≤ (wrap64 (4 + (wrap64 (t516)))) then ((examboardref10_Decode.f k ((l0.take ((wrap64 (4 + (wrap64 (t516)))) : Int).toNat).drop 4)).bind fun bt522 => (if bt522.2.2.2.2.2.2 = 0 then (if bt522.2.2.2.2.2.1 = (wrap64 (t516)) then (some (bt522.1, bt522.2.1, bt522.2.2.1, bt522.2.2.2.1, bt522.2.2.2.2.1, wrap64 ((wrap64 (4 + (wrap64 (t516)))) + 8), t518, 0)) else (some (0, 0, 0, (⟨#[]⟩ : ByteArray), ([] : List (S43)), 0, 0, 2))) else (some (0, 0, 0, (⟨#[]⟩ : ByteArray), ([] : List (S43)), 0, 0, 2)))) else (none)) else (some (0, 0, 0, (⟨#[]⟩ : ByteArray), ([] : List (S43)), 0, 0, 12))))) else (none)) else (none))))))
theorem examboardref49_entry.mono : ∀ a0 a1 a2 k, LeO (examboardref49_entry.f k a0 a1 a2) (examboardref49_entry.f (k + 1) a0 a1 a2) := by
 intro a0 a1 a2 k
 unfold examboardref49_entry.f
 repeat' first
   | (with_reducible exact examboardref10_Decode.mono _ _)
   | (with_reducible exact examboardref11_Chain.mono _ _ _)
   | (with_reducible exact examboardref49_number.mono _ _ _)
   | (with_reducible exact LeO.refl _)
   | (with_reducible exact LeO.none _)
   | (with_reducible refine LeO.ite ?_ ?_)
   | (with_reducible refine LeO.bind ?_ (fun _ => ?_))
   | exact examboardref10_Decode.mono _ _
   | exact examboardref11_Chain.mono _ _ _
   | exact examboardref49_number.mono _ _ _
   | exact LeO.none _
   | refine LeO.ite ?_ ?_
   | refine LeO.bind ?_ (fun _ => ?_)
set_option maxHeartbeats 8000000 in
set_option maxRecDepth 100000 in
theorem examboardref49_entry.calls (k : Nat) (A0 : Option Addr) (c0 : Nat) (l0 : List Int) (a1 : Int) (a2 : Int) (r1 : Int) (r2 : Int) (r3 : Int) (r4 : ByteArray) (r5 : List (S43)) (r6 : Int) (r7 : Int) (r8 : Int) (w : World) (hr0 : Kd.C (Kd.int .u8) w A0 l0.length l0) (hc0 : l0.length ≤ c0) (h : examboardref49_entry.f k l0 a1 a2 = some (r1, r2, r3, r4, r5, r6, r7, r8)) :
  Calls Tryd.prog 48 #[.slice A0 l0.length c0, .int .i64 a1, .int .u64 a2] w fun e w' => ∃ v4_ : Value, e = .returned (.tuple #[.agg #[.int .i64 r1, .int .i64 r2, .int .i64 r3, .string r4, v4_], .int .i64 r6, .int .u64 r7, .int .i64 r8]) ∧ Kd.V k43 43 w' w.heap.size (fun k_ => (w.heap.size ≤ k_)) v4_ r5 ∧ Below w.heap.size w w' := by
 have hu43 := Tryd.underlying43
 have HR0 := am hr0
 have HC0 := am hc0
 clear hr0 hc0
 have HB := am (Below.refl w.heap.size w)
 have H : (if a1 ≥ 300 then (some (0, 0, 0, (⟨#[]⟩ : ByteArray), ([] : List (S43)), 0, 0, 5)) else (if (l0.length : Int) < 4 then (some (0, 0, 0, (⟨#[]⟩ : ByteArray), ([] : List (S43)), 0, 0, 4)) else ((examboardref49_number.f k l0 4).bind fun t516 => (if t516 > 2000 then (some (0, 0, 0, (⟨#[]⟩ : ByteArray), ([] : List (S43)), 0, 0, 5)) else (if (l0.length : Int) < (wrap64 ((wrap64 (4 + (wrap64 (t516)))) + 8)) then (some (0, 0, 0, (⟨#[]⟩ : ByteArray), ([] : List (S43)), 0, 0, 4)) else (if 0 ≤ (wrap64 (4 + (wrap64 (t516)))) then (if (wrap64 (4 + (wrap64 (t516)))) ≤ (l0.length : Int) then ((examboardref11_Chain.f k a2 (l0.take ((wrap64 (4 + (wrap64 (t516)))) : Int).toNat)).bind fun t518 => ((examboardref49_number.f k (l0.drop ((wrap64 (4 + (wrap64 (t516)))) : Int).toNat) 8).bind fun t520 => (if t520 = t518 then (if 4 ≤ (wrap64 (4 + (wrap64 (t516)))) then ((examboardref10_Decode.f k ((l0.take ((wrap64 (4 + (wrap64 (t516)))) : Int).toNat).drop 4)).bind fun bt522 => (if bt522.2.2.2.2.2.2 = 0 then (if bt522.2.2.2.2.2.1 = (wrap64 (t516)) then (some (bt522.1, bt522.2.1, bt522.2.2.1, bt522.2.2.2.1, bt522.2.2.2.2.1, wrap64 ((wrap64 (4 + (wrap64 (t516)))) + 8), t518, 0)) else (some (0, 0, 0, (⟨#[]⟩ : ByteArray), ([] : List (S43)), 0, 0, 2))) else (some (0, 0, 0, (⟨#[]⟩ : ByteArray), ([] : List (S43)), 0, 0, 2)))) else (none)) else (some (0, 0, 0, (⟨#[]⟩ : ByteArray), ([] : List (S43)), 0, 0, 12))))) else (none)) else (none))))))) = some (r1, r2, r3, r4, r5, r6, r7, r8) := h
 clear h
 by_cases c4 : a1 ≥ 300
 ·
  rw [if_pos c4] at H
  have c4b0 : decide (300 ≤ a1) = true := decide_eq_true c4
  clear c4
  simp only [Option.some.injEq, Prod.mk.injEq] at H
  obtain ⟨rfl, rfl, rfl, rfl, rfl, rfl, rfl, rfl⟩ := H
  go_enter Tryd.func48, Tryd.ntmps48
  go_wp2_with (first | ((with_reducible refine gate_dst (N := 6) rfl ?_); refine box_event rfl (N := 6) rfl (cs := #[.int .i64 0, .int .i64 0, .int .i64 0, .string (⟨#[]⟩ : ByteArray), .slice none 0 0]) (t := 43) gz ?_; intro gb515 hg w5 hbox hb; have BK515 := am (hbox); have GW515 := am ((bs hg (hz HB.out) : w.heap.size ≤ gb515)); have GE515 := am ((bs hg (hz HB.out) : w.heap.size ≤ gb515)); replace HB := am (below_step (hz HB.out) hb); clear hb hbox hg; obtain ⟨hcz6_0, hcz6_1, hcz6_2, hcz6_3, hcz6_4⟩ := cs5 BK515.out; obtain ⟨hfz6_0, hfz6_1, hfz6_2, hfz6_3, hfz6_4⟩ := fs5 BK515.out))
  refine bodyPost_ret (results_list (rs := [.cell 6 43, .tmp 7, .tmp 8, .tmp 9]) rfl (by simp) (.cell gb515 43 #[.int .i64 0, .int .i64 0, .int .i64 0, .string (⟨#[]⟩ : ByteArray), .slice none 0 0] (0, 0) _ rfl (bp BK515.out) Tryd.underlying43 rfl (by kernel_rfl) (.tmp (.tmp (.tmp .nil))))) rfl ?_
  exact ⟨_, ew, Kd.V_nil _ _ _ _ _, hz1 HB.out GE515.out⟩
 ·
  rw [if_neg c4] at H
  have c4b0 : decide (300 ≤ a1) = false := decide_eq_false c4
  clear c4
  by_cases c7 : (l0.length : Int) < 4
  ·
   rw [if_pos c7] at H
   have c7b0 : decide ((l0.length : Int) < 4) = true := decide_eq_true c7
   have c7b1 : decide (l0.length < 4) = true := decide_eq_true (by omega)
   clear c7
   simp only [Option.some.injEq, Prod.mk.injEq] at H
   obtain ⟨rfl, rfl, rfl, rfl, rfl, rfl, rfl, rfl⟩ := H
   go_enter Tryd.func48, Tryd.ntmps48
   go_wp2_with (first | ((with_reducible refine gate_dst (N := 6) rfl ?_); refine box_event rfl (N := 6) rfl (cs := #[.int .i64 0, .int .i64 0, .int .i64 0, .string (⟨#[]⟩ : ByteArray), .slice none 0 0]) (t := 43) gz ?_; intro gb515 hg w8 hbox hb; have BK515 := am (hbox); have GW515 := am ((bs hg (hz HB.out) : w.heap.size ≤ gb515)); have GE515 := am ((bs hg (hz HB.out) : w.heap.size ≤ gb515)); replace HB := am (below_step (hz HB.out) hb); clear hb hbox hg; obtain ⟨hcz9_0, hcz9_1, hcz9_2, hcz9_3, hcz9_4⟩ := cs5 BK515.out; obtain ⟨hfz9_0, hfz9_1, hfz9_2, hfz9_3, hfz9_4⟩ := fs5 BK515.out))
   refine bodyPost_ret (results_list (rs := [.cell 6 43, .tmp 7, .tmp 8, .tmp 9]) rfl (by simp) (.cell gb515 43 #[.int .i64 0, .int .i64 0, .int .i64 0, .string (⟨#[]⟩ : ByteArray), .slice none 0 0] (0, 0) _ rfl (bp BK515.out) Tryd.underlying43 rfl (by kernel_rfl) (.tmp (.tmp (.tmp .nil))))) rfl ?_
   exact ⟨_, ew, Kd.V_nil _ _ _ _ _, hz1 HB.out GE515.out⟩
  ·
   rw [if_neg c7] at H
   have c7b0 : decide ((l0.length : Int) < 4) = false := decide_eq_false c7
   have c7b1 : decide (l0.length < 4) = false := decide_eq_false (by omega)
   clear c7
   replace H := Option.bind_eq_some_iff.mp H
   obtain ⟨t516, A100, H⟩ := H
   try dsimp only at H
   have A10 := am A100
   clear A100
   by_cases c11 : t516 > 2000
   ·
    rw [if_pos c11] at H
    have c11b0 : decide (2000 < t516) = true := decide_eq_true c11
    clear c11
    simp only [Option.some.injEq, Prod.mk.injEq] at H
    obtain ⟨rfl, rfl, rfl, rfl, rfl, rfl, rfl, rfl⟩ := H
    go_enter Tryd.func48, Tryd.ntmps48
    go_wp2_with (first | ((with_reducible refine gate_dst (N := 6) rfl ?_); refine box_event rfl (N := 6) rfl (cs := #[.int .i64 0, .int .i64 0, .int .i64 0, .string (⟨#[]⟩ : ByteArray), .slice none 0 0]) (t := 43) gz ?_; intro gb515 hg w12 hbox hb; have BK515 := am (hbox); have GW515 := am ((bs hg (hz HB.out) : w.heap.size ≤ gb515)); have GE515 := am ((bs hg (hz HB.out) : w.heap.size ≤ gb515)); replace HB := am (below_step (hz HB.out) hb); clear hb hbox hg) | ((with_reducible refine gate_callee (f := 62) rfl ?_); refine goesL_ (some 24) rfl rfl Tryd.func62 (by kernel_rfl) rfl #[.slice A0 l0.length c0, .int .i64 4] rfl lz ?_; (with_reducible refine (examboardref49_number.calls k _ _ l0 4 t516 _ ?side1 ?side2 A10.out).mono ?_); (case side1 => exact cz (Kd.C_below HR0.out HB.out)); (case side2 => exact HC0.out); rintro e w' ⟨rfl, ⟨nd, rfl⟩⟩; refine ⟨_, rfl, ?_⟩; (try (rw [drewN_self w12]; generalize hq_ : World.drewN w12 _ = w12; have n0_ : Aside0 (w12.heap[gb515]? = some (.cells #[.int .i64 0, .int .i64 0, .int .i64 0, .string (⟨#[]⟩ : ByteArray), .slice none 0 0] 43 (0, 0))) := ⟨by rw [← hq_]; exact (bz BK515.out)⟩; have n1_ : Aside0 (Below w.heap.size w w12) := ⟨by rw [← hq_]; exact (hz1 HB.out GE515.out)⟩; clear BK515 HB hq_; have BK515 := n0_; have HB := n1_; clear n0_ n1_)); obtain ⟨hcz13_0, hcz13_1, hcz13_2, hcz13_3, hcz13_4⟩ := cs5 BK515.out; obtain ⟨hfz13_0, hfz13_1, hfz13_2, hfz13_3, hfz13_4⟩ := fs5 BK515.out))
    refine bodyPost_ret (results_list (rs := [.cell 6 43, .tmp 7, .tmp 8, .tmp 9]) rfl (by simp) (.cell gb515 43 #[.int .i64 0, .int .i64 0, .int .i64 0, .string (⟨#[]⟩ : ByteArray), .slice none 0 0] (0, 0) _ rfl (bp BK515.out) Tryd.underlying43 rfl (by kernel_rfl) (.tmp (.tmp (.tmp .nil))))) rfl ?_
    exact ⟨_, ew, Kd.V_nil _ _ _ _ _, hz1 HB.out GE515.out⟩
   ·
    rw [if_neg c11] at H
    have c11b0 : decide (2000 < t516) = false := decide_eq_false c11
    clear c11
    by_cases c14 : (l0.length : Int) < (wrap64 ((wrap64 (4 + (wrap64 (t516)))) + 8))
    ·
     rw [if_pos c14] at H
     have c14b0 : decide ((l0.length : Int) < (wrap64 ((wrap64 (4 + (wrap64 (t516)))) + 8))) = true := decide_eq_true c14
     clear c14
     simp only [Option.some.injEq, Prod.mk.injEq] at H
     obtain ⟨rfl, rfl, rfl, rfl, rfl, rfl, rfl, rfl⟩ := H
     go_enter Tryd.func48, Tryd.ntmps48
     go_wp2_with (first | ((with_reducible refine gate_dst (N := 6) rfl ?_); refine box_event rfl (N := 6) rfl (cs := #[.int .i64 0, .int .i64 0, .int .i64 0, .string (⟨#[]⟩ : ByteArray), .slice none 0 0]) (t := 43) gz ?_; intro gb515 hg w15 hbox hb; have BK515 := am (hbox); have GW515 := am ((bs hg (hz HB.out) : w.heap.size ≤ gb515)); have GE515 := am ((bs hg (hz HB.out) : w.heap.size ≤ gb515)); replace HB := am (below_step (hz HB.out) hb); clear hb hbox hg) | ((with_reducible refine gate_callee (f := 62) rfl ?_); refine goesL_ (some 24) rfl rfl Tryd.func62 (by kernel_rfl) rfl #[.slice A0 l0.length c0, .int .i64 4] rfl lz ?_; (with_reducible refine (examboardref49_number.calls k _ _ l0 4 t516 _ ?side1 ?side2 A10.out).mono ?_); (case side1 => exact cz (Kd.C_below HR0.out HB.out)); (case side2 => exact HC0.out); rintro e w' ⟨rfl, ⟨nd, rfl⟩⟩; refine ⟨_, rfl, ?_⟩; (try (rw [drewN_self w15]; generalize hq_ : World.drewN w15 _ = w15; have n0_ : Aside0 (w15.heap[gb515]? = some (.cells #[.int .i64 0, .int .i64 0, .int .i64 0, .string (⟨#[]⟩ : ByteArray), .slice none 0 0] 43 (0, 0))) := ⟨by rw [← hq_]; exact (bz BK515.out)⟩; have n1_ : Aside0 (Below w.heap.size w w15) := ⟨by rw [← hq_]; exact (hz1 HB.out GE515.out)⟩; clear BK515 HB hq_; have BK515 := n0_; have HB := n1_; clear n0_ n1_)); obtain ⟨hcz16_0, hcz16_1, hcz16_2, hcz16_3, hcz16_4⟩ := cs5 BK515.out; obtain ⟨hfz16_0, hfz16_1, hfz16_2, hfz16_3, hfz16_4⟩ := fs5 BK515.out))
     refine bodyPost_ret (results_list (rs := [.cell 6 43, .tmp 7, .tmp 8, .tmp 9]) rfl (by simp) (.cell gb515 43 #[.int .i64 0, .int .i64 0, .int .i64 0, .string (⟨#[]⟩ : ByteArray), .slice none 0 0] (0, 0) _ rfl (bp BK515.out) Tryd.underlying43 rfl (by kernel_rfl) (.tmp (.tmp (.tmp .nil))))) rfl ?_
     exact ⟨_, ew, Kd.V_nil _ _ _ _ _, hz1 HB.out GE515.out⟩
    ·
     rw [if_neg c14] at H
     have c14b0 : decide ((l0.length : Int) < (wrap64 ((wrap64 (4 + (wrap64 (t516)))) + 8))) = false := decide_eq_false c14
     clear c14
     obtain ⟨ji17, hji17⟩ : ∃ j_ : Int, (wrap64 (4 + (wrap64 (t516)))) = j_ := ⟨_, rfl⟩
     replace H : (if 0 ≤ (ji17) then (if (ji17) ≤ (l0.length : Int) then ((examboardref11_Chain.f k a2 (l0.take ((ji17) : Int).toNat)).bind fun t518 => ((examboardref49_number.f k (l0.drop ((ji17) : Int).toNat) 8).bind fun t520 => (if t520 = t518 then (if 4 ≤ (ji17) then ((examboardref10_Decode.f k ((l0.take ((ji17) : Int).toNat).drop 4)).bind fun bt522 => (if bt522.2.2.2.2.2.2 = 0 then (if bt522.2.2.2.2.2.1 = (wrap64 (t516)) then (some (bt522.1, bt522.2.1, bt522.2.2.1, bt522.2.2.2.1, bt522.2.2.2.2.1, wrap64 ((ji17) + 8), t518, 0)) else (some (0, 0, 0, (⟨#[]⟩ : ByteArray), ([] : List (S43)), 0, 0, 2))) else (some (0, 0, 0, (⟨#[]⟩ : ByteArray), ([] : List (S43)), 0, 0, 2)))) else (none)) else (some (0, 0, 0, (⟨#[]⟩ : ByteArray), ([] : List (S43)), 0, 0, 12))))) else (none)) else (none)) = some (r1, r2, r3, r4, r5, r6, r7, r8) := by first | (rw [hji17] at H; exact H) | (simp only [hji17] at H ⊢; exact H)
     (try rw [hji17] at c14b0)
     (try rw [hji17] at A10)
     have hji17w : (IntKind.i64.wrap (4 + (wrap64 (t516)))) = ji17 := (i64_w _).trans hji17
     replace H := it_ H
     obtain ⟨c18, H⟩ := H
     have c18b0 := eq_true c18
     have c18b1 : decide (0 ≤ (ji17)) = true := decide_eq_true c18
     clear c18
     replace H := it_ H
     obtain ⟨c19, H⟩ := H
     have c19b0 := eq_true c19
     have c19b1 : decide ((ji17) ≤ (l0.length : Int)) = true := decide_eq_true c19
     clear c19
     replace H := Option.bind_eq_some_iff.mp H
     obtain ⟨t518, A200, H⟩ := H
     try dsimp only at H
     have A20 := am A200
     clear A200
     have c21b0 := eq_true (of_decide_eq_true az : 0 ≤ (ji17))
     have c22b0 := eq_true (of_decide_eq_true az : (ji17) ≤ (l0.length : Int))
     replace H := Option.bind_eq_some_iff.mp H
     obtain ⟨t520, A230, H⟩ := H
     try dsimp only at H
     have A23 := am A230
     clear A230
     by_cases c24 : t520 = t518
     ·
      rw [if_pos c24] at H
      have c24b0 : (t520 == t518) = true := beq_iff_eq.mpr c24
      have c24b1 : (t520 != t518) = false := bne_eq_false_iff_eq.mpr c24
      clear c24
      replace H := it_ H
      obtain ⟨c25, H⟩ := H
      have c25b0 := eq_true c25
      have c25b1 : decide (4 ≤ (ji17)) = true := decide_eq_true c25
      clear c25
      have c26b0 := eq_true (of_decide_eq_true az : (ji17) ≤ (l0.length : Int))
      replace H := Option.bind_eq_some_iff.mp H
      obtain ⟨⟨t522, t523, t524, t525, t526, t529, t530⟩, A270, H⟩ := H
      try dsimp only at H
      have A27 := am A270
      clear A270
      by_cases c28 : t530 = 0
      ·
       rw [if_pos c28] at H
       have c28b0 : (t530 == 0) = true := beq_iff_eq.mpr c28
       have c28b1 : (t530 != 0) = false := bne_eq_false_iff_eq.mpr c28
       clear c28
       by_cases c29 : t529 = (wrap64 (t516))
       ·
        rw [if_pos c29] at H
        have c29b0 : (t529 == (wrap64 (t516))) = true := beq_iff_eq.mpr c29
        have c29b1 : (t529 != (wrap64 (t516))) = false := bne_eq_false_iff_eq.mpr c29
        clear c29
        simp only [Option.some.injEq, Prod.mk.injEq] at H
        obtain ⟨rfl, rfl, rfl, rfl, rfl, rfl, rfl, rfl⟩ := H
        go_enter Tryd.func48, Tryd.ntmps48
        go_wp2_with (first | ((with_reducible refine gate_dst (N := 6) rfl ?_); refine box_event rfl (N := 6) rfl (cs := #[.int .i64 0, .int .i64 0, .int .i64 0, .string (⟨#[]⟩ : ByteArray), .slice none 0 0]) (t := 43) gz ?_; intro gb515 hg w30 hbox hb; have BK515 := am (hbox); have GW515 := am ((bs hg (hz HB.out) : w.heap.size ≤ gb515)); have GE515 := am ((bs hg (hz HB.out) : w.heap.size ≤ gb515)); replace HB := am (below_step (hz HB.out) hb); clear hb hbox hg) | ((with_reducible refine gate_callee (f := 62) rfl ?_); refine goesL_ (some 24) rfl rfl Tryd.func62 (by kernel_rfl) rfl #[.slice A0 l0.length c0, .int .i64 4] rfl lz ?_; (with_reducible refine (examboardref49_number.calls k _ _ l0 4 t516 _ ?side1 ?side2 A10.out).mono ?_); (case side1 => exact cz (Kd.C_below HR0.out HB.out)); (case side2 => exact HC0.out); rintro e w' ⟨rfl, ⟨nd, rfl⟩⟩; refine ⟨_, rfl, ?_⟩; (try (rw [drewN_self w30]; generalize hq_ : World.drewN w30 _ = w30; have n0_ : Aside0 (w30.heap[gb515]? = some (.cells #[.int .i64 0, .int .i64 0, .int .i64 0, .string (⟨#[]⟩ : ByteArray), .slice none 0 0] 43 (0, 0))) := ⟨by rw [← hq_]; exact (bz BK515.out)⟩; have n1_ : Aside0 (Below w.heap.size w w30) := ⟨by rw [← hq_]; exact (hz1 HB.out GE515.out)⟩; clear BK515 HB hq_; have BK515 := n0_; have HB := n1_; clear n0_ n1_)); obtain ⟨i031, hi031, _, hsz31, _⟩ := info_parts info5; obtain ⟨hcut31, hA31, hC31⟩ := print_take_of (P := Tryd.prog) (Value.int .u8) 0 24 5 .i64 Tryd.underlying24 hi031 hsz31 A0 c0 l0 (ji17) (of_decide_eq_true az) (of_decide_eq_true az) HC0.out; have HR517 := am (Kd.C_of_reads (h1 := fun _ => rfl) (hA31 _ (Kd.reads_of_C HR0.out))); have HC517 := am hC31; clear hA31 hC31 hi031 hsz31) | ((with_reducible refine gate_callee (f := 41) rfl ?_); refine goesL_ (some 41) rfl rfl Tryd.func41 (by kernel_rfl) rfl #[.int .u64 a2, .slice A0 (l0.take ((ji17) : Int).toNat).length c0] rfl (by (try simp only [List.map_toArray, List.map_cons, List.map_nil]); first | done | (rw [show (l0.take ((ji17) : Int).toNat).length = (ji17).toNat from (by rw [List.length_take]; have h_ : ((ji17) : Int) ≤ (l0.length : Int) := of_decide_eq_true az; omega)] <;> rfl) | (simp only [hji17]; rfl) | rfl | (simp only [List.length_drop, List.length_take]; rfl)) ?_; (with_reducible refine (examboardref11_Chain.calls k a2 _ _ (l0.take ((ji17) : Int).toNat) t518 _ ?side1 ?side2 A20.out).mono ?_); (case side1 => exact cz (Kd.C_below HR517.out HB.out)); (case side2 => exact HC517.out); rintro e w' ⟨rfl, ⟨nd, rfl⟩⟩; refine ⟨_, rfl, ?_⟩; (try (rw [drewN_self w30]; generalize hq_ : World.drewN w30 _ = w30; have n0_ : Aside0 (w30.heap[gb515]? = some (.cells #[.int .i64 0, .int .i64 0, .int .i64 0, .string (⟨#[]⟩ : ByteArray), .slice none 0 0] 43 (0, 0))) := ⟨by rw [← hq_]; exact (bz BK515.out)⟩; have n1_ : Aside0 (Below w.heap.size w w30) := ⟨by rw [← hq_]; exact (hz1 HB.out GE515.out)⟩; clear BK515 HB hq_; have BK515 := n0_; have HB := n1_; clear n0_ n1_)); obtain ⟨i032, hi032, _, hsz32, _⟩ := info_parts info5; obtain ⟨A32, hcut32, hA32, hC32⟩ := print_drop_of (P := Tryd.prog) (Value.int .u8) 0 24 5 .i64 Tryd.underlying24 hi032 hsz32 A0 c0 l0 (ji17) (of_decide_eq_true az) (of_decide_eq_true az) HC0.out; have HR519 := am (Kd.C_of_reads (h1 := fun _ => rfl) (hA32 _ (Kd.reads_of_C HR0.out))); have HC519 := am hC32; clear hA32 hC32 hi032 hsz32) | ((with_reducible refine gate_callee (f := 62) rfl ?_); refine goesL_ (some 45) rfl rfl Tryd.func62 (by kernel_rfl) rfl #[.slice A32 (l0.drop ((ji17) : Int).toNat).length (c0 - (ji17).toNat), .int .i64 8] rfl (by (try simp only [List.map_toArray, List.map_cons, List.map_nil]); first | done | (rw [show (l0.drop ((ji17) : Int).toNat).length = (l0.length - (ji17).toNat) from List.length_drop] <;> rfl) | (simp only [hji17]; rfl) | rfl | (simp only [List.length_drop, List.length_take]; rfl)) ?_; (with_reducible refine (examboardref49_number.calls k _ _ (l0.drop ((ji17) : Int).toNat) 8 t520 _ ?side1 ?side2 A23.out).mono ?_); (case side1 => exact cz (Kd.C_below HR519.out HB.out)); (case side2 => exact HC519.out); rintro e w' ⟨rfl, ⟨nd, rfl⟩⟩; refine ⟨_, rfl, ?_⟩; (try (rw [drewN_self w30]; generalize hq_ : World.drewN w30 _ = w30; have n0_ : Aside0 (w30.heap[gb515]? = some (.cells #[.int .i64 0, .int .i64 0, .int .i64 0, .string (⟨#[]⟩ : ByteArray), .slice none 0 0] 43 (0, 0))) := ⟨by rw [← hq_]; exact (bz BK515.out)⟩; have n1_ : Aside0 (Below w.heap.size w w30) := ⟨by rw [← hq_]; exact (hz1 HB.out GE515.out)⟩; clear BK515 HB hq_; have BK515 := n0_; have HB := n1_; clear n0_ n1_)); obtain ⟨i033, hi033, _, hsz33, _⟩ := info_parts info5; obtain ⟨A33, hcut33, hA33, hC33⟩ := print_mid_of (P := Tryd.prog) (Value.int .u8) 0 24 5 .i64 .i64 Tryd.underlying24 hi033 hsz33 A0 c0 l0 4 (ji17) (by omega) (by first | omega | exact of_decide_eq_true az) (of_decide_eq_true az) HC0.out; have HR521 := am (Kd.C_of_reads (h1 := fun _ => rfl) (hA33 _ (Kd.reads_of_C HR0.out))); have HC521 := am hC33; clear hA33 hC33 hi033 hsz33) | ((with_reducible refine gate_callee (f := 63) rfl ?_); refine goesL_ (some 53) rfl rfl Tryd.func63 (by kernel_rfl) rfl #[.slice A33 ((l0.take ((ji17) : Int).toNat).drop 4).length (c0 - 4)] rfl (by (try simp only [List.map_toArray, List.map_cons, List.map_nil]); first | done | (rw [show ((l0.take ((ji17) : Int).toNat).drop 4).length = ((ji17).toNat - 4) from (by rw [List.length_drop, List.length_take]; have h_ : ((ji17) : Int) ≤ (l0.length : Int) := of_decide_eq_true az; omega)] <;> rfl) | (simp only [hji17]; rfl) | rfl | (simp only [List.length_drop, List.length_take]; rfl)) ?_; (with_reducible refine (examboardref10_Decode.calls k _ _ ((l0.take ((ji17) : Int).toNat).drop 4) t522 t523 t524 t525 t526 t529 t530 _ ?side1 ?side2 A27.out).mono ?_); (case side1 => exact cz (Kd.C_below HR521.out HB.out)); (case side2 => exact HC521.out); rintro e w34 ⟨v527, rfl, ho0, hb⟩; refine ⟨_, rfl, ?_⟩; have HO528 := am (Kd.V_lower (Kd.V_mono (ok' := fun k_ => (w.heap.size ≤ k_) ∧ k_ ≠ gb515) ho0 (fun k_ hk_ => ⟨(Nat.le_trans (below_size (hz1 HB.out GE515.out)) hk_), (Kd.freshB (g := gb515) (o := .cells #[.int .i64 0, .int .i64 0, .int .i64 0, .string (⟨#[]⟩ : ByteArray), .slice none 0 0] 43 (0, 0)) (bz BK515.out) k_ hk_)⟩)) (below_size (hz1 HB.out GE515.out))); replace BK515 := am (bw BK515.out hb); replace HB := am (below_step (hz1 HB.out GE515.out) hb)) | ((with_reducible refine gate_dst (N := 13) rfl ?_); refine box_event rfl (N := 13) rfl (cs := #[.int .i64 0, .int .i64 0, .int .i64 0, .string (⟨#[]⟩ : ByteArray), .slice none 0 0]) (t := 43) gz ?_; intro gb531 hg w35 hbox hb; replace HO528 := am (Kd.V_below (Kd.V_elderB (vz HO528.out) gb531 (Nat.le_of_eq hg.symm)) hb); have BK531 := am (hbox); have GW531 := am ((bs hg (hz1 HB.out GE515.out) : w.heap.size ≤ gb531)); have GE531 := am ((bs hg (hz1 HB.out GE515.out) : w.heap.size ≤ gb531)); replace HB := am (below_step (hz1 HB.out GE515.out) hb); have NB515_531 := am ((nl hg (bz BK515.out) : gb515 ≠ gb531)); have NB531_515 := am ((ng hg (bz BK515.out) : gb531 ≠ gb515)); replace BK515 := am (bw BK515.out hb); clear hb hbox hg; have hnb36 := NB531_515.out; have hnc36 := NB515_531.out; obtain ⟨hcz37_0, hcz37_1, hcz37_2, hcz37_3, hcz37_4⟩ := cs5 BK531.out; obtain ⟨hfz37_0, hfz37_1, hfz37_2, hfz37_3, hfz37_4⟩ := fs5 BK531.out; obtain ⟨Ao38, co38, eo38⟩ := Kd.V_slice HO528.out; subst eo38; obtain ⟨hcz39_0, hcz39_1, hcz39_2, hcz39_3, hcz39_4⟩ := cs5 BK515.out; obtain ⟨hfz39_0, hfz39_1, hfz39_2, hfz39_3, hfz39_4⟩ := fs5 BK515.out))
        refine bodyPost_ret (results_list (rs := [.cell 6 43, .tmp 7, .tmp 8, .tmp 9]) rfl (by simp) (.cell gb515 43 #[.int .i64 t522, .int .i64 t523, .int .i64 t524, .string t525, .slice Ao38 t526.length co38] (0, 0) _ rfl (by (with_reducible repeat (first | refine blk_drewN ?_ _ | refine blk_drew ?_ | refine blk_alloc ?_ _)); refine blk_put (cs := #[.int .i64 t522, .int .i64 t523, .int .i64 t524, .string t525, .slice none 0 0]) ?_ 4 _ rfl; (with_reducible repeat (first | refine blk_drewN ?_ _ | refine blk_drew ?_ | refine blk_alloc ?_ _)); refine blk_put (cs := #[.int .i64 t522, .int .i64 t523, .int .i64 t524, .string (⟨#[]⟩ : ByteArray), .slice none 0 0]) ?_ 3 _ rfl; (with_reducible repeat (first | refine blk_drewN ?_ _ | refine blk_drew ?_ | refine blk_alloc ?_ _)); refine blk_put (cs := #[.int .i64 t522, .int .i64 t523, .int .i64 0, .string (⟨#[]⟩ : ByteArray), .slice none 0 0]) ?_ 2 _ rfl; (with_reducible repeat (first | refine blk_drewN ?_ _ | refine blk_drew ?_ | refine blk_alloc ?_ _)); refine blk_put (cs := #[.int .i64 t522, .int .i64 0, .int .i64 0, .string (⟨#[]⟩ : ByteArray), .slice none 0 0]) ?_ 1 _ rfl; (with_reducible repeat (first | refine blk_drewN ?_ _ | refine blk_drew ?_ | refine blk_alloc ?_ _)); refine blk_put (cs := #[.int .i64 0, .int .i64 0, .int .i64 0, .string (⟨#[]⟩ : ByteArray), .slice none 0 0]) ?_ 0 _ rfl; (with_reducible repeat (first | refine blk_drewN ?_ _ | refine blk_drew ?_ | refine blk_alloc ?_ _)); refine blk_far ?_ NB515_531.out _; (with_reducible repeat (first | refine blk_drewN ?_ _ | refine blk_drew ?_ | refine blk_alloc ?_ _)); refine blk_far ?_ NB515_531.out _; (with_reducible repeat (first | refine blk_drewN ?_ _ | refine blk_drew ?_ | refine blk_alloc ?_ _)); refine blk_far ?_ NB515_531.out _; (with_reducible repeat (first | refine blk_drewN ?_ _ | refine blk_drew ?_ | refine blk_alloc ?_ _)); refine blk_far ?_ NB515_531.out _; (with_reducible repeat (first | refine blk_drewN ?_ _ | refine blk_drew ?_ | refine blk_alloc ?_ _)); refine blk_far ?_ NB515_531.out _; (with_reducible repeat (first | refine blk_drewN ?_ _ | refine blk_drew ?_ | refine blk_alloc ?_ _)); exact BK515.out) Tryd.underlying43 rfl (by kernel_rfl) (.tmp (.tmp (.tmp .nil))))) rfl ?_
        exact ⟨_, by first | rfl | (simp [errW_none, errW_some] <;> rfl) | (simp only [← hji17]; first | rfl | (simp [errW_none, errW_some] <;> rfl)) | (simp [*, errW_none, errW_some] <;> rfl), by (with_reducible repeat (first | apply Kd.V_alloc | apply Kd.V_drewN | apply Kd.V_drew)); exact Kd.V_mono (Kd.V_far (p := ⟨gb515, 4, none⟩) (Kd.V_far (p := ⟨gb515, 3, none⟩) (Kd.V_far (p := ⟨gb515, 2, none⟩) (Kd.V_far (p := ⟨gb515, 1, none⟩) (Kd.V_far (p := ⟨gb515, 0, none⟩) (Kd.V_far (p := ⟨gb531, 4, none⟩) (Kd.V_far (p := ⟨gb531, 3, none⟩) (Kd.V_far (p := ⟨gb531, 2, none⟩) (Kd.V_far (p := ⟨gb531, 1, none⟩) (Kd.V_far (p := ⟨gb531, 0, none⟩) (Kd.V_mono (Kd.V_mono HO528.out (fun k_ hk => (⟨hk, hk.2⟩ : _ ∧ k_ ≠ gb531))) (fun k_ hk => (⟨hk, hk.1.1.2⟩ : _ ∧ k_ ≠ gb515))) (fun _ hk => hk.1.2) (.int .i64 t522)) (fun _ hk => hk.1.2) (.int .i64 t523)) (fun _ hk => hk.1.2) (.int .i64 t524)) (fun _ hk => hk.1.2) (.string t525)) (fun _ hk => hk.1.2) (.slice Ao38 t526.length co38)) (fun _ hk => hk.2) (.int .i64 t522)) (fun _ hk => hk.2) (.int .i64 t523)) (fun _ hk => hk.2) (.int .i64 t524)) (fun _ hk => hk.2) (.string t525)) (fun _ hk => hk.2) (.slice Ao38 t526.length co38)) (fun _ hk => hk.1.1.1.1), hz2 HB.out GE515.out GE531.out⟩
       ·
        rw [if_neg c29] at H
        have c29b0 : (t529 == (wrap64 (t516))) = false := beq_eq_false_iff_ne.mpr c29
        have c29b1 : (t529 != (wrap64 (t516))) = true := bne_iff_ne.mpr c29
        simp only [Option.some.injEq, Prod.mk.injEq] at H
        obtain ⟨rfl, rfl, rfl, rfl, rfl, rfl, rfl, rfl⟩ := H
        go_enter Tryd.func48, Tryd.ntmps48
        go_wp2_with (first | ((with_reducible refine gate_dst (N := 6) rfl ?_); refine box_event rfl (N := 6) rfl (cs := #[.int .i64 0, .int .i64 0, .int .i64 0, .string (⟨#[]⟩ : ByteArray), .slice none 0 0]) (t := 43) gz ?_; intro gb515 hg w40 hbox hb; have BK515 := am (hbox); have GW515 := am ((bs hg (hz HB.out) : w.heap.size ≤ gb515)); have GE515 := am ((bs hg (hz HB.out) : w.heap.size ≤ gb515)); replace HB := am (below_step (hz HB.out) hb); clear hb hbox hg) | ((with_reducible refine gate_callee (f := 62) rfl ?_); refine goesL_ (some 24) rfl rfl Tryd.func62 (by kernel_rfl) rfl #[.slice A0 l0.length c0, .int .i64 4] rfl lz ?_; (with_reducible refine (examboardref49_number.calls k _ _ l0 4 t516 _ ?side1 ?side2 A10.out).mono ?_); (case side1 => exact cz (Kd.C_below HR0.out HB.out)); (case side2 => exact HC0.out); rintro e w' ⟨rfl, ⟨nd, rfl⟩⟩; refine ⟨_, rfl, ?_⟩; (try (rw [drewN_self w40]; generalize hq_ : World.drewN w40 _ = w40; have n0_ : Aside0 (w40.heap[gb515]? = some (.cells #[.int .i64 0, .int .i64 0, .int .i64 0, .string (⟨#[]⟩ : ByteArray), .slice none 0 0] 43 (0, 0))) := ⟨by rw [← hq_]; exact (bz BK515.out)⟩; have n1_ : Aside0 (Below w.heap.size w w40) := ⟨by rw [← hq_]; exact (hz1 HB.out GE515.out)⟩; clear BK515 HB hq_; have BK515 := n0_; have HB := n1_; clear n0_ n1_)); obtain ⟨i041, hi041, _, hsz41, _⟩ := info_parts info5; obtain ⟨hcut41, hA41, hC41⟩ := print_take_of (P := Tryd.prog) (Value.int .u8) 0 24 5 .i64 Tryd.underlying24 hi041 hsz41 A0 c0 l0 (ji17) (of_decide_eq_true az) (of_decide_eq_true az) HC0.out; have HR517 := am (Kd.C_of_reads (h1 := fun _ => rfl) (hA41 _ (Kd.reads_of_C HR0.out))); have HC517 := am hC41; clear hA41 hC41 hi041 hsz41) | ((with_reducible refine gate_callee (f := 41) rfl ?_); refine goesL_ (some 41) rfl rfl Tryd.func41 (by kernel_rfl) rfl #[.int .u64 a2, .slice A0 (l0.take ((ji17) : Int).toNat).length c0] rfl (by (try simp only [List.map_toArray, List.map_cons, List.map_nil]); first | done | (rw [show (l0.take ((ji17) : Int).toNat).length = (ji17).toNat from (by rw [List.length_take]; have h_ : ((ji17) : Int) ≤ (l0.length : Int) := of_decide_eq_true az; omega)] <;> rfl) | (simp only [hji17]; rfl) | rfl | (simp only [List.length_drop, List.length_take]; rfl)) ?_; (with_reducible refine (examboardref11_Chain.calls k a2 _ _ (l0.take ((ji17) : Int).toNat) t518 _ ?side1 ?side2 A20.out).mono ?_); (case side1 => exact cz (Kd.C_below HR517.out HB.out)); (case side2 => exact HC517.out); rintro e w' ⟨rfl, ⟨nd, rfl⟩⟩; refine ⟨_, rfl, ?_⟩; (try (rw [drewN_self w40]; generalize hq_ : World.drewN w40 _ = w40; have n0_ : Aside0 (w40.heap[gb515]? = some (.cells #[.int .i64 0, .int .i64 0, .int .i64 0, .string (⟨#[]⟩ : ByteArray), .slice none 0 0] 43 (0, 0))) := ⟨by rw [← hq_]; exact (bz BK515.out)⟩; have n1_ : Aside0 (Below w.heap.size w w40) := ⟨by rw [← hq_]; exact (hz1 HB.out GE515.out)⟩; clear BK515 HB hq_; have BK515 := n0_; have HB := n1_; clear n0_ n1_)); obtain ⟨i042, hi042, _, hsz42, _⟩ := info_parts info5; obtain ⟨A42, hcut42, hA42, hC42⟩ := print_drop_of (P := Tryd.prog) (Value.int .u8) 0 24 5 .i64 Tryd.underlying24 hi042 hsz42 A0 c0 l0 (ji17) (of_decide_eq_true az) (of_decide_eq_true az) HC0.out; have HR519 := am (Kd.C_of_reads (h1 := fun _ => rfl) (hA42 _ (Kd.reads_of_C HR0.out))); have HC519 := am hC42; clear hA42 hC42 hi042 hsz42) | ((with_reducible refine gate_callee (f := 62) rfl ?_); refine goesL_ (some 45) rfl rfl Tryd.func62 (by kernel_rfl) rfl #[.slice A42 (l0.drop ((ji17) : Int).toNat).length (c0 - (ji17).toNat), .int .i64 8] rfl (by (try simp only [List.map_toArray, List.map_cons, List.map_nil]); first | done | (rw [show (l0.drop ((ji17) : Int).toNat).length = (l0.length - (ji17).toNat) from List.length_drop] <;> rfl) | (simp only [hji17]; rfl) | rfl | (simp only [List.length_drop, List.length_take]; rfl)) ?_; (with_reducible refine (examboardref49_number.calls k _ _ (l0.drop ((ji17) : Int).toNat) 8 t520 _ ?side1 ?side2 A23.out).mono ?_); (case side1 => exact cz (Kd.C_below HR519.out HB.out)); (case side2 => exact HC519.out); rintro e w' ⟨rfl, ⟨nd, rfl⟩⟩; refine ⟨_, rfl, ?_⟩; (try (rw [drewN_self w40]; generalize hq_ : World.drewN w40 _ = w40; have n0_ : Aside0 (w40.heap[gb515]? = some (.cells #[.int .i64 0, .int .i64 0, .int .i64 0, .string (⟨#[]⟩ : ByteArray), .slice none 0 0] 43 (0, 0))) := ⟨by rw [← hq_]; exact (bz BK515.out)⟩; have n1_ : Aside0 (Below w.heap.size w w40) := ⟨by rw [← hq_]; exact (hz1 HB.out GE515.out)⟩; clear BK515 HB hq_; have BK515 := n0_; have HB := n1_; clear n0_ n1_)); obtain ⟨i043, hi043, _, hsz43, _⟩ := info_parts info5; obtain ⟨A43, hcut43, hA43, hC43⟩ := print_mid_of (P := Tryd.prog) (Value.int .u8) 0 24 5 .i64 .i64 Tryd.underlying24 hi043 hsz43 A0 c0 l0 4 (ji17) (by omega) (by first | omega | exact of_decide_eq_true az) (of_decide_eq_true az) HC0.out; have HR521 := am (Kd.C_of_reads (h1 := fun _ => rfl) (hA43 _ (Kd.reads_of_C HR0.out))); have HC521 := am hC43; clear hA43 hC43 hi043 hsz43) | ((with_reducible refine gate_callee (f := 63) rfl ?_); refine goesL_ (some 53) rfl rfl Tryd.func63 (by kernel_rfl) rfl #[.slice A43 ((l0.take ((ji17) : Int).toNat).drop 4).length (c0 - 4)] rfl (by (try simp only [List.map_toArray, List.map_cons, List.map_nil]); first | done | (rw [show ((l0.take ((ji17) : Int).toNat).drop 4).length = ((ji17).toNat - 4) from (by rw [List.length_drop, List.length_take]; have h_ : ((ji17) : Int) ≤ (l0.length : Int) := of_decide_eq_true az; omega)] <;> rfl) | (simp only [hji17]; rfl) | rfl | (simp only [List.length_drop, List.length_take]; rfl)) ?_; (with_reducible refine (examboardref10_Decode.calls k _ _ ((l0.take ((ji17) : Int).toNat).drop 4) t522 t523 t524 t525 t526 t529 t530 _ ?side1 ?side2 A27.out).mono ?_); (case side1 => exact cz (Kd.C_below HR521.out HB.out)); (case side2 => exact HC521.out); rintro e w44 ⟨v527, rfl, ho0, hb⟩; refine ⟨_, rfl, ?_⟩; have HO528 := am (Kd.V_lower (Kd.V_mono (ok' := fun k_ => (w.heap.size ≤ k_) ∧ k_ ≠ gb515) ho0 (fun k_ hk_ => ⟨(Nat.le_trans (below_size (hz1 HB.out GE515.out)) hk_), (Kd.freshB (g := gb515) (o := .cells #[.int .i64 0, .int .i64 0, .int .i64 0, .string (⟨#[]⟩ : ByteArray), .slice none 0 0] 43 (0, 0)) (bz BK515.out) k_ hk_)⟩)) (below_size (hz1 HB.out GE515.out))); replace BK515 := am (bw BK515.out hb); replace HB := am (below_step (hz1 HB.out GE515.out) hb)) | ((with_reducible refine gate_dst (N := 13) rfl ?_); refine box_event rfl (N := 13) rfl (cs := #[.int .i64 0, .int .i64 0, .int .i64 0, .string (⟨#[]⟩ : ByteArray), .slice none 0 0]) (t := 43) gz ?_; intro gb531 hg w45 hbox hb; replace HO528 := am (Kd.V_below (Kd.V_elderB (vz HO528.out) gb531 (Nat.le_of_eq hg.symm)) hb); have BK531 := am (hbox); have GW531 := am ((bs hg (hz1 HB.out GE515.out) : w.heap.size ≤ gb531)); have GE531 := am ((bs hg (hz1 HB.out GE515.out) : w.heap.size ≤ gb531)); replace HB := am (below_step (hz1 HB.out GE515.out) hb); have NB515_531 := am ((nl hg (bz BK515.out) : gb515 ≠ gb531)); have NB531_515 := am ((ng hg (bz BK515.out) : gb531 ≠ gb515)); replace BK515 := am (bw BK515.out hb); clear hb hbox hg; have hnb46 := NB531_515.out; have hnc46 := NB515_531.out; obtain ⟨hcz47_0, hcz47_1, hcz47_2, hcz47_3, hcz47_4⟩ := cs5 BK531.out; obtain ⟨hfz47_0, hfz47_1, hfz47_2, hfz47_3, hfz47_4⟩ := fs5 BK531.out; obtain ⟨Ao48, co48, eo48⟩ := Kd.V_slice HO528.out; subst eo48; obtain ⟨hcz49_0, hcz49_1, hcz49_2, hcz49_3, hcz49_4⟩ := cs5 BK515.out; obtain ⟨hfz49_0, hfz49_1, hfz49_2, hfz49_3, hfz49_4⟩ := fs5 BK515.out))
        refine bodyPost_ret (results_list (rs := [.cell 6 43, .tmp 7, .tmp 8, .tmp 9]) rfl (by simp) (.cell gb515 43 #[.int .i64 0, .int .i64 0, .int .i64 0, .string (⟨#[]⟩ : ByteArray), .slice none 0 0] (0, 0) _ rfl (by (with_reducible repeat (first | refine blk_drewN ?_ _ | refine blk_drew ?_ | refine blk_alloc ?_ _)); refine blk_put (cs := #[.int .i64 0, .int .i64 0, .int .i64 0, .string (⟨#[]⟩ : ByteArray), .slice none 0 0]) ?_ 4 _ rfl; (with_reducible repeat (first | refine blk_drewN ?_ _ | refine blk_drew ?_ | refine blk_alloc ?_ _)); refine blk_put (cs := #[.int .i64 0, .int .i64 0, .int .i64 0, .string (⟨#[]⟩ : ByteArray), .slice none 0 0]) ?_ 3 _ rfl; (with_reducible repeat (first | refine blk_drewN ?_ _ | refine blk_drew ?_ | refine blk_alloc ?_ _)); refine blk_put (cs := #[.int .i64 0, .int .i64 0, .int .i64 0, .string (⟨#[]⟩ : ByteArray), .slice none 0 0]) ?_ 2 _ rfl; (with_reducible repeat (first | refine blk_drewN ?_ _ | refine blk_drew ?_ | refine blk_alloc ?_ _)); refine blk_put (cs := #[.int .i64 0, .int .i64 0, .int .i64 0, .string (⟨#[]⟩ : ByteArray), .slice none 0 0]) ?_ 1 _ rfl; (with_reducible repeat (first | refine blk_drewN ?_ _ | refine blk_drew ?_ | refine blk_alloc ?_ _)); refine blk_put (cs := #[.int .i64 0, .int .i64 0, .int .i64 0, .string (⟨#[]⟩ : ByteArray), .slice none 0 0]) ?_ 0 _ rfl; (with_reducible repeat (first | refine blk_drewN ?_ _ | refine blk_drew ?_ | refine blk_alloc ?_ _)); refine blk_far ?_ NB515_531.out _; (with_reducible repeat (first | refine blk_drewN ?_ _ | refine blk_drew ?_ | refine blk_alloc ?_ _)); refine blk_far ?_ NB515_531.out _; (with_reducible repeat (first | refine blk_drewN ?_ _ | refine blk_drew ?_ | refine blk_alloc ?_ _)); refine blk_far ?_ NB515_531.out _; (with_reducible repeat (first | refine blk_drewN ?_ _ | refine blk_drew ?_ | refine blk_alloc ?_ _)); refine blk_far ?_ NB515_531.out _; (with_reducible repeat (first | refine blk_drewN ?_ _ | refine blk_drew ?_ | refine blk_alloc ?_ _)); refine blk_far ?_ NB515_531.out _; (with_reducible repeat (first | refine blk_drewN ?_ _ | refine blk_drew ?_ | refine blk_alloc ?_ _)); exact BK515.out) Tryd.underlying43 rfl (by kernel_rfl) (.tmp (.tmp (.tmp .nil))))) rfl ?_
        exact ⟨_, by first | rfl | (simp [errW_none, errW_some] <;> rfl) | (simp only [← hji17]; first | rfl | (simp [errW_none, errW_some] <;> rfl)) | (simp [*, errW_none, errW_some] <;> rfl), Kd.V_nil _ _ _ _ _, hz2 HB.out GE515.out GE531.out⟩
      ·
       rw [if_neg c28] at H
       have c28b0 : (t530 == 0) = false := beq_eq_false_iff_ne.mpr c28
       have c28b1 : (t530 != 0) = true := bne_iff_ne.mpr c28
       simp only [Option.some.injEq, Prod.mk.injEq] at H
       obtain ⟨rfl, rfl, rfl, rfl, rfl, rfl, rfl, rfl⟩ := H
       go_enter Tryd.func48, Tryd.ntmps48
       go_wp2_with (first | ((with_reducible refine gate_dst (N := 6) rfl ?_); refine box_event rfl (N := 6) rfl (cs := #[.int .i64 0, .int .i64 0, .int .i64 0, .string (⟨#[]⟩ : ByteArray), .slice none 0 0]) (t := 43) gz ?_; intro gb515 hg w50 hbox hb; have BK515 := am (hbox); have GW515 := am ((bs hg (hz HB.out) : w.heap.size ≤ gb515)); have GE515 := am ((bs hg (hz HB.out) : w.heap.size ≤ gb515)); replace HB := am (below_step (hz HB.out) hb); clear hb hbox hg) | ((with_reducible refine gate_callee (f := 62) rfl ?_); refine goesL_ (some 24) rfl rfl Tryd.func62 (by kernel_rfl) rfl #[.slice A0 l0.length c0, .int .i64 4] rfl lz ?_; (with_reducible refine (examboardref49_number.calls k _ _ l0 4 t516 _ ?side1 ?side2 A10.out).mono ?_); (case side1 => exact cz (Kd.C_below HR0.out HB.out)); (case side2 => exact HC0.out); rintro e w' ⟨rfl, ⟨nd, rfl⟩⟩; refine ⟨_, rfl, ?_⟩; (try (rw [drewN_self w50]; generalize hq_ : World.drewN w50 _ = w50; have n0_ : Aside0 (w50.heap[gb515]? = some (.cells #[.int .i64 0, .int .i64 0, .int .i64 0, .string (⟨#[]⟩ : ByteArray), .slice none 0 0] 43 (0, 0))) := ⟨by rw [← hq_]; exact (bz BK515.out)⟩; have n1_ : Aside0 (Below w.heap.size w w50) := ⟨by rw [← hq_]; exact (hz1 HB.out GE515.out)⟩; clear BK515 HB hq_; have BK515 := n0_; have HB := n1_; clear n0_ n1_)); obtain ⟨i051, hi051, _, hsz51, _⟩ := info_parts info5; obtain ⟨hcut51, hA51, hC51⟩ := print_take_of (P := Tryd.prog) (Value.int .u8) 0 24 5 .i64 Tryd.underlying24 hi051 hsz51 A0 c0 l0 (ji17) (of_decide_eq_true az) (of_decide_eq_true az) HC0.out; have HR517 := am (Kd.C_of_reads (h1 := fun _ => rfl) (hA51 _ (Kd.reads_of_C HR0.out))); have HC517 := am hC51; clear hA51 hC51 hi051 hsz51) | ((with_reducible refine gate_callee (f := 41) rfl ?_); refine goesL_ (some 41) rfl rfl Tryd.func41 (by kernel_rfl) rfl #[.int .u64 a2, .slice A0 (l0.take ((ji17) : Int).toNat).length c0] rfl (by (try simp only [List.map_toArray, List.map_cons, List.map_nil]); first | done | (rw [show (l0.take ((ji17) : Int).toNat).length = (ji17).toNat from (by rw [List.length_take]; have h_ : ((ji17) : Int) ≤ (l0.length : Int) := of_decide_eq_true az; omega)] <;> rfl) | (simp only [hji17]; rfl) | rfl | (simp only [List.length_drop, List.length_take]; rfl)) ?_; (with_reducible refine (examboardref11_Chain.calls k a2 _ _ (l0.take ((ji17) : Int).toNat) t518 _ ?side1 ?side2 A20.out).mono ?_); (case side1 => exact cz (Kd.C_below HR517.out HB.out)); (case side2 => exact HC517.out); rintro e w' ⟨rfl, ⟨nd, rfl⟩⟩; refine ⟨_, rfl, ?_⟩; (try (rw [drewN_self w50]; generalize hq_ : World.drewN w50 _ = w50; have n0_ : Aside0 (w50.heap[gb515]? = some (.cells #[.int .i64 0, .int .i64 0, .int .i64 0, .string (⟨#[]⟩ : ByteArray), .slice none 0 0] 43 (0, 0))) := ⟨by rw [← hq_]; exact (bz BK515.out)⟩; have n1_ : Aside0 (Below w.heap.size w w50) := ⟨by rw [← hq_]; exact (hz1 HB.out GE515.out)⟩; clear BK515 HB hq_; have BK515 := n0_; have HB := n1_; clear n0_ n1_)); obtain ⟨i052, hi052, _, hsz52, _⟩ := info_parts info5; obtain ⟨A52, hcut52, hA52, hC52⟩ := print_drop_of (P := Tryd.prog) (Value.int .u8) 0 24 5 .i64 Tryd.underlying24 hi052 hsz52 A0 c0 l0 (ji17) (of_decide_eq_true az) (of_decide_eq_true az) HC0.out; have HR519 := am (Kd.C_of_reads (h1 := fun _ => rfl) (hA52 _ (Kd.reads_of_C HR0.out))); have HC519 := am hC52; clear hA52 hC52 hi052 hsz52) | ((with_reducible refine gate_callee (f := 62) rfl ?_); refine goesL_ (some 45) rfl rfl Tryd.func62 (by kernel_rfl) rfl #[.slice A52 (l0.drop ((ji17) : Int).toNat).length (c0 - (ji17).toNat), .int .i64 8] rfl (by (try simp only [List.map_toArray, List.map_cons, List.map_nil]); first | done | (rw [show (l0.drop ((ji17) : Int).toNat).length = (l0.length - (ji17).toNat) from List.length_drop] <;> rfl) | (simp only [hji17]; rfl) | rfl | (simp only [List.length_drop, List.length_take]; rfl)) ?_; (with_reducible refine (examboardref49_number.calls k _ _ (l0.drop ((ji17) : Int).toNat) 8 t520 _ ?side1 ?side2 A23.out).mono ?_); (case side1 => exact cz (Kd.C_below HR519.out HB.out)); (case side2 => exact HC519.out); rintro e w' ⟨rfl, ⟨nd, rfl⟩⟩; refine ⟨_, rfl, ?_⟩; (try (rw [drewN_self w50]; generalize hq_ : World.drewN w50 _ = w50; have n0_ : Aside0 (w50.heap[gb515]? = some (.cells #[.int .i64 0, .int .i64 0, .int .i64 0, .string (⟨#[]⟩ : ByteArray), .slice none 0 0] 43 (0, 0))) := ⟨by rw [← hq_]; exact (bz BK515.out)⟩; have n1_ : Aside0 (Below w.heap.size w w50) := ⟨by rw [← hq_]; exact (hz1 HB.out GE515.out)⟩; clear BK515 HB hq_; have BK515 := n0_; have HB := n1_; clear n0_ n1_)); obtain ⟨i053, hi053, _, hsz53, _⟩ := info_parts info5; obtain ⟨A53, hcut53, hA53, hC53⟩ := print_mid_of (P := Tryd.prog) (Value.int .u8) 0 24 5 .i64 .i64 Tryd.underlying24 hi053 hsz53 A0 c0 l0 4 (ji17) (by omega) (by first | omega | exact of_decide_eq_true az) (of_decide_eq_true az) HC0.out; have HR521 := am (Kd.C_of_reads (h1 := fun _ => rfl) (hA53 _ (Kd.reads_of_C HR0.out))); have HC521 := am hC53; clear hA53 hC53 hi053 hsz53) | ((with_reducible refine gate_callee (f := 63) rfl ?_); refine goesL_ (some 53) rfl rfl Tryd.func63 (by kernel_rfl) rfl #[.slice A53 ((l0.take ((ji17) : Int).toNat).drop 4).length (c0 - 4)] rfl (by (try simp only [List.map_toArray, List.map_cons, List.map_nil]); first | done | (rw [show ((l0.take ((ji17) : Int).toNat).drop 4).length = ((ji17).toNat - 4) from (by rw [List.length_drop, List.length_take]; have h_ : ((ji17) : Int) ≤ (l0.length : Int) := of_decide_eq_true az; omega)] <;> rfl) | (simp only [hji17]; rfl) | rfl | (simp only [List.length_drop, List.length_take]; rfl)) ?_; (with_reducible refine (examboardref10_Decode.calls k _ _ ((l0.take ((ji17) : Int).toNat).drop 4) t522 t523 t524 t525 t526 t529 t530 _ ?side1 ?side2 A27.out).mono ?_); (case side1 => exact cz (Kd.C_below HR521.out HB.out)); (case side2 => exact HC521.out); rintro e w54 ⟨v527, rfl, ho0, hb⟩; refine ⟨_, rfl, ?_⟩; have HO528 := am (Kd.V_lower (Kd.V_mono (ok' := fun k_ => (w.heap.size ≤ k_) ∧ k_ ≠ gb515) ho0 (fun k_ hk_ => ⟨(Nat.le_trans (below_size (hz1 HB.out GE515.out)) hk_), (Kd.freshB (g := gb515) (o := .cells #[.int .i64 0, .int .i64 0, .int .i64 0, .string (⟨#[]⟩ : ByteArray), .slice none 0 0] 43 (0, 0)) (bz BK515.out) k_ hk_)⟩)) (below_size (hz1 HB.out GE515.out))); replace BK515 := am (bw BK515.out hb); replace HB := am (below_step (hz1 HB.out GE515.out) hb)) | ((with_reducible refine gate_dst (N := 13) rfl ?_); refine box_event rfl (N := 13) rfl (cs := #[.int .i64 0, .int .i64 0, .int .i64 0, .string (⟨#[]⟩ : ByteArray), .slice none 0 0]) (t := 43) gz ?_; intro gb531 hg w55 hbox hb; replace HO528 := am (Kd.V_below (Kd.V_elderB (vz HO528.out) gb531 (Nat.le_of_eq hg.symm)) hb); have BK531 := am (hbox); have GW531 := am ((bs hg (hz1 HB.out GE515.out) : w.heap.size ≤ gb531)); have GE531 := am ((bs hg (hz1 HB.out GE515.out) : w.heap.size ≤ gb531)); replace HB := am (below_step (hz1 HB.out GE515.out) hb); have NB515_531 := am ((nl hg (bz BK515.out) : gb515 ≠ gb531)); have NB531_515 := am ((ng hg (bz BK515.out) : gb531 ≠ gb515)); replace BK515 := am (bw BK515.out hb); clear hb hbox hg; have hnb56 := NB531_515.out; have hnc56 := NB515_531.out; obtain ⟨hcz57_0, hcz57_1, hcz57_2, hcz57_3, hcz57_4⟩ := cs5 BK531.out; obtain ⟨hfz57_0, hfz57_1, hfz57_2, hfz57_3, hfz57_4⟩ := fs5 BK531.out; obtain ⟨Ao58, co58, eo58⟩ := Kd.V_slice HO528.out; subst eo58; obtain ⟨hcz59_0, hcz59_1, hcz59_2, hcz59_3, hcz59_4⟩ := cs5 BK515.out; obtain ⟨hfz59_0, hfz59_1, hfz59_2, hfz59_3, hfz59_4⟩ := fs5 BK515.out))
       refine bodyPost_ret (results_list (rs := [.cell 6 43, .tmp 7, .tmp 8, .tmp 9]) rfl (by simp) (.cell gb515 43 #[.int .i64 0, .int .i64 0, .int .i64 0, .string (⟨#[]⟩ : ByteArray), .slice none 0 0] (0, 0) _ rfl (by (with_reducible repeat (first | refine blk_drewN ?_ _ | refine blk_drew ?_ | refine blk_alloc ?_ _)); refine blk_put (cs := #[.int .i64 0, .int .i64 0, .int .i64 0, .string (⟨#[]⟩ : ByteArray), .slice none 0 0]) ?_ 4 _ rfl; (with_reducible repeat (first | refine blk_drewN ?_ _ | refine blk_drew ?_ | refine blk_alloc ?_ _)); refine blk_put (cs := #[.int .i64 0, .int .i64 0, .int .i64 0, .string (⟨#[]⟩ : ByteArray), .slice none 0 0]) ?_ 3 _ rfl; (with_reducible repeat (first | refine blk_drewN ?_ _ | refine blk_drew ?_ | refine blk_alloc ?_ _)); refine blk_put (cs := #[.int .i64 0, .int .i64 0, .int .i64 0, .string (⟨#[]⟩ : ByteArray), .slice none 0 0]) ?_ 2 _ rfl; (with_reducible repeat (first | refine blk_drewN ?_ _ | refine blk_drew ?_ | refine blk_alloc ?_ _)); refine blk_put (cs := #[.int .i64 0, .int .i64 0, .int .i64 0, .string (⟨#[]⟩ : ByteArray), .slice none 0 0]) ?_ 1 _ rfl; (with_reducible repeat (first | refine blk_drewN ?_ _ | refine blk_drew ?_ | refine blk_alloc ?_ _)); refine blk_put (cs := #[.int .i64 0, .int .i64 0, .int .i64 0, .string (⟨#[]⟩ : ByteArray), .slice none 0 0]) ?_ 0 _ rfl; (with_reducible repeat (first | refine blk_drewN ?_ _ | refine blk_drew ?_ | refine blk_alloc ?_ _)); refine blk_far ?_ NB515_531.out _; (with_reducible repeat (first | refine blk_drewN ?_ _ | refine blk_drew ?_ | refine blk_alloc ?_ _)); refine blk_far ?_ NB515_531.out _; (with_reducible repeat (first | refine blk_drewN ?_ _ | refine blk_drew ?_ | refine blk_alloc ?_ _)); refine blk_far ?_ NB515_531.out _; (with_reducible repeat (first | refine blk_drewN ?_ _ | refine blk_drew ?_ | refine blk_alloc ?_ _)); refine blk_far ?_ NB515_531.out _; (with_reducible repeat (first | refine blk_drewN ?_ _ | refine blk_drew ?_ | refine blk_alloc ?_ _)); refine blk_far ?_ NB515_531.out _; (with_reducible repeat (first | refine blk_drewN ?_ _ | refine blk_drew ?_ | refine blk_alloc ?_ _)); exact BK515.out) Tryd.underlying43 rfl (by kernel_rfl) (.tmp (.tmp (.tmp .nil))))) rfl ?_
       exact ⟨_, by first | rfl | (simp [errW_none, errW_some] <;> rfl) | (simp only [← hji17]; first | rfl | (simp [errW_none, errW_some] <;> rfl)) | (simp [*, errW_none, errW_some] <;> rfl), Kd.V_nil _ _ _ _ _, hz2 HB.out GE515.out GE531.out⟩
     ·
      rw [if_neg c24] at H
      have c24b0 : (t520 == t518) = false := beq_eq_false_iff_ne.mpr c24
      have c24b1 : (t520 != t518) = true := bne_iff_ne.mpr c24
      simp only [Option.some.injEq, Prod.mk.injEq] at H
      obtain ⟨rfl, rfl, rfl, rfl, rfl, rfl, rfl, rfl⟩ := H
      go_enter Tryd.func48, Tryd.ntmps48
      go_wp2_with (first | ((with_reducible refine gate_dst (N := 6) rfl ?_); refine box_event rfl (N := 6) rfl (cs := #[.int .i64 0, .int .i64 0, .int .i64 0, .string (⟨#[]⟩ : ByteArray), .slice none 0 0]) (t := 43) gz ?_; intro gb515 hg w60 hbox hb; have BK515 := am (hbox); have GW515 := am ((bs hg (hz HB.out) : w.heap.size ≤ gb515)); have GE515 := am ((bs hg (hz HB.out) : w.heap.size ≤ gb515)); replace HB := am (below_step (hz HB.out) hb); clear hb hbox hg) | ((with_reducible refine gate_callee (f := 62) rfl ?_); refine goesL_ (some 24) rfl rfl Tryd.func62 (by kernel_rfl) rfl #[.slice A0 l0.length c0, .int .i64 4] rfl lz ?_; (with_reducible refine (examboardref49_number.calls k _ _ l0 4 t516 _ ?side1 ?side2 A10.out).mono ?_); (case side1 => exact cz (Kd.C_below HR0.out HB.out)); (case side2 => exact HC0.out); rintro e w' ⟨rfl, ⟨nd, rfl⟩⟩; refine ⟨_, rfl, ?_⟩; (try (rw [drewN_self w60]; generalize hq_ : World.drewN w60 _ = w60; have n0_ : Aside0 (w60.heap[gb515]? = some (.cells #[.int .i64 0, .int .i64 0, .int .i64 0, .string (⟨#[]⟩ : ByteArray), .slice none 0 0] 43 (0, 0))) := ⟨by rw [← hq_]; exact (bz BK515.out)⟩; have n1_ : Aside0 (Below w.heap.size w w60) := ⟨by rw [← hq_]; exact (hz1 HB.out GE515.out)⟩; clear BK515 HB hq_; have BK515 := n0_; have HB := n1_; clear n0_ n1_)); obtain ⟨i061, hi061, _, hsz61, _⟩ := info_parts info5; obtain ⟨hcut61, hA61, hC61⟩ := print_take_of (P := Tryd.prog) (Value.int .u8) 0 24 5 .i64 Tryd.underlying24 hi061 hsz61 A0 c0 l0 (ji17) (of_decide_eq_true az) (of_decide_eq_true az) HC0.out; have HR517 := am (Kd.C_of_reads (h1 := fun _ => rfl) (hA61 _ (Kd.reads_of_C HR0.out))); have HC517 := am hC61; clear hA61 hC61 hi061 hsz61) | ((with_reducible refine gate_callee (f := 41) rfl ?_); refine goesL_ (some 41) rfl rfl Tryd.func41 (by kernel_rfl) rfl #[.int .u64 a2, .slice A0 (l0.take ((ji17) : Int).toNat).length c0] rfl (by (try simp only [List.map_toArray, List.map_cons, List.map_nil]); first | done | (rw [show (l0.take ((ji17) : Int).toNat).length = (ji17).toNat from (by rw [List.length_take]; have h_ : ((ji17) : Int) ≤ (l0.length : Int) := of_decide_eq_true az; omega)] <;> rfl) | (simp only [hji17]; rfl) | rfl | (simp only [List.length_drop, List.length_take]; rfl)) ?_; (with_reducible refine (examboardref11_Chain.calls k a2 _ _ (l0.take ((ji17) : Int).toNat) t518 _ ?side1 ?side2 A20.out).mono ?_); (case side1 => exact cz (Kd.C_below HR517.out HB.out)); (case side2 => exact HC517.out); rintro e w' ⟨rfl, ⟨nd, rfl⟩⟩; refine ⟨_, rfl, ?_⟩; (try (rw [drewN_self w60]; generalize hq_ : World.drewN w60 _ = w60; have n0_ : Aside0 (w60.heap[gb515]? = some (.cells #[.int .i64 0, .int .i64 0, .int .i64 0, .string (⟨#[]⟩ : ByteArray), .slice none 0 0] 43 (0, 0))) := ⟨by rw [← hq_]; exact (bz BK515.out)⟩; have n1_ : Aside0 (Below w.heap.size w w60) := ⟨by rw [← hq_]; exact (hz1 HB.out GE515.out)⟩; clear BK515 HB hq_; have BK515 := n0_; have HB := n1_; clear n0_ n1_)); obtain ⟨i062, hi062, _, hsz62, _⟩ := info_parts info5; obtain ⟨A62, hcut62, hA62, hC62⟩ := print_drop_of (P := Tryd.prog) (Value.int .u8) 0 24 5 .i64 Tryd.underlying24 hi062 hsz62 A0 c0 l0 (ji17) (of_decide_eq_true az) (of_decide_eq_true az) HC0.out; have HR519 := am (Kd.C_of_reads (h1 := fun _ => rfl) (hA62 _ (Kd.reads_of_C HR0.out))); have HC519 := am hC62; clear hA62 hC62 hi062 hsz62) | ((with_reducible refine gate_callee (f := 62) rfl ?_); refine goesL_ (some 45) rfl rfl Tryd.func62 (by kernel_rfl) rfl #[.slice A62 (l0.drop ((ji17) : Int).toNat).length (c0 - (ji17).toNat), .int .i64 8] rfl (by (try simp only [List.map_toArray, List.map_cons, List.map_nil]); first | done | (rw [show (l0.drop ((ji17) : Int).toNat).length = (l0.length - (ji17).toNat) from List.length_drop] <;> rfl) | (simp only [hji17]; rfl) | rfl | (simp only [List.length_drop, List.length_take]; rfl)) ?_; (with_reducible refine (examboardref49_number.calls k _ _ (l0.drop ((ji17) : Int).toNat) 8 t520 _ ?side1 ?side2 A23.out).mono ?_); (case side1 => exact cz (Kd.C_below HR519.out HB.out)); (case side2 => exact HC519.out); rintro e w' ⟨rfl, ⟨nd, rfl⟩⟩; refine ⟨_, rfl, ?_⟩; (try (rw [drewN_self w60]; generalize hq_ : World.drewN w60 _ = w60; have n0_ : Aside0 (w60.heap[gb515]? = some (.cells #[.int .i64 0, .int .i64 0, .int .i64 0, .string (⟨#[]⟩ : ByteArray), .slice none 0 0] 43 (0, 0))) := ⟨by rw [← hq_]; exact (bz BK515.out)⟩; have n1_ : Aside0 (Below w.heap.size w w60) := ⟨by rw [← hq_]; exact (hz1 HB.out GE515.out)⟩; clear BK515 HB hq_; have BK515 := n0_; have HB := n1_; clear n0_ n1_)); obtain ⟨hcz63_0, hcz63_1, hcz63_2, hcz63_3, hcz63_4⟩ := cs5 BK515.out; obtain ⟨hfz63_0, hfz63_1, hfz63_2, hfz63_3, hfz63_4⟩ := fs5 BK515.out))
      refine bodyPost_ret (results_list (rs := [.cell 6 43, .tmp 7, .tmp 8, .tmp 9]) rfl (by simp) (.cell gb515 43 #[.int .i64 0, .int .i64 0, .int .i64 0, .string (⟨#[]⟩ : ByteArray), .slice none 0 0] (0, 0) _ rfl (bp BK515.out) Tryd.underlying43 rfl (by kernel_rfl) (.tmp (.tmp (.tmp .nil))))) rfl ?_
      exact ⟨_, by first | rfl | (simp [errW_none, errW_some] <;> rfl) | (simp only [← hji17]; first | rfl | (simp [errW_none, errW_some] <;> rfl)) | (simp [*, errW_none, errW_some] <;> rfl), Kd.V_nil _ _ _ _ _, hz1 HB.out GE515.out⟩

/-! ### examboardref49_read: function 37 -/
def examboardref49_read.l0 : Nat → List Int → List (S43) → Int → Int → Option ((List (S43)) × Int × Int × Int)
 | 0, _, _, _, _ => none
 | k + 1, x0, x6, x7, x8 => if x7 < (x0.length : Int) then (if 0 ≤ x7 then (if x7 ≤ (x0.length : Int) then ((examboardref49_entry.f k (x0.drop (x7 : Int).toNat) (x6.length : Int) x8).bind fun bt534 => (if bt534.2.2.2.2.2.2.2 = 0 then (if x6.length < 2199023255552 then (examboardref49_read.l0 k x0 (x6 ++ [(⟨bt534.1, bt534.2.1, bt534.2.2.1, bt534.2.2.2.1, bt534.2.2.2.2.1⟩ : S43)]) (wrap64 (x7 + bt534.2.2.2.2.2.1)) bt534.2.2.2.2.2.2.1) else (none)) else (some (x6, x7, x8, bt534.2.2.2.2.2.2.2)))) else (none)) else (none)) else (some (x6, x7, x8, 0))
def examboardref49_read.f (k : Nat) (l0 : List Int) : Option ((List (S43)) × Int × Int × Int) := (examboardref11_Of.f k ([] : List Int)).bind fun t532 => (examboardref49_read.l0 k l0 ([] : List (S43)) 0 t532)
theorem examboardref49_read.mono_l : ∀ k, (∀ y0 y1 y2 y3, LeO (examboardref49_read.l0 k y0 y1 y2 y3) (examboardref49_read.l0 (k + 1) y0 y1 y2 y3))
 | 0 => fun _ _ _ _ r h => by simp [examboardref49_read.l0] at h
 | k + 1 => by
  have ih0 := examboardref49_read.mono_l k
  ·
   intro y0 y1 y2 y3
   unfold examboardref49_read.l0
   repeat' first
   | (with_reducible exact ih0 _ _ _ _)
   | (with_reducible exact examboardref11_Of.mono _ _)
   | (with_reducible exact examboardref49_entry.mono _ _ _ _)
   | (with_reducible exact LeO.refl _)
   | (with_reducible exact LeO.none _)
   | (with_reducible refine LeO.ite ?_ ?_)
   | (with_reducible refine LeO.bind ?_ (fun _ => ?_))
   | exact ih0 _ _ _ _
   | exact examboardref11_Of.mono _ _
   | exact examboardref49_entry.mono _ _ _ _
   | exact LeO.none _
   | refine LeO.ite ?_ ?_
   | refine LeO.bind ?_ (fun _ => ?_)
theorem examboardref49_read.mono : ∀ a0 k, LeO (examboardref49_read.f k a0) (examboardref49_read.f (k + 1) a0) := by
 intro a0 k
 have ih0 := examboardref49_read.mono_l k
 unfold examboardref49_read.f
 repeat' first
   | (with_reducible exact ih0 _ _ _ _)
   | (with_reducible exact examboardref11_Of.mono _ _)
   | (with_reducible exact examboardref49_entry.mono _ _ _ _)
   | (with_reducible exact LeO.refl _)
   | (with_reducible exact LeO.none _)
   | (with_reducible refine LeO.ite ?_ ?_)
   | (with_reducible refine LeO.bind ?_ (fun _ => ?_))
   | exact ih0 _ _ _ _
   | exact examboardref11_Of.mono _ _
   | exact examboardref49_entry.mono _ _ _ _
   | exact LeO.none _
   | refine LeO.ite ?_ ?_
   | refine LeO.bind ?_ (fun _ => ?_)
set_option maxHeartbeats 8000000 in
set_option maxRecDepth 100000 in
theorem examboardref49_read.calls (k : Nat) (A0 : Option Addr) (c0 : Nat) (l0 : List Int) (r1 : List (S43)) (r2 : Int) (r3 : Int) (r4 : Int) (w : World) (hr0 : Kd.C (Kd.int .u8) w A0 l0.length l0) (hc0 : l0.length ≤ c0) (h : examboardref49_read.f k l0 = some (r1, r2, r3, r4)) :
  Calls Tryd.prog 37 #[.slice A0 l0.length c0] w fun e w' => ∃ v0_ : Value, e = .returned (.tuple #[v0_, .int .i64 r2, .int .u64 r3, .int .i64 r4]) ∧ Kd.N k43 43 w' w.heap.size (fun k_ => (w.heap.size ≤ k_)) v0_ r1 ∧ Below w.heap.size w w' := by
 have hu43 := Tryd.underlying43
 have HR0 := am hr0
 have HC0 := am hc0
 clear hr0 hc0
 have HB := am (Below.refl w.heap.size w)
 have H : ((examboardref11_Of.f k ([] : List Int)).bind fun t532 => (examboardref49_read.l0 k l0 ([] : List (S43)) 0 t532)) = some (r1, r2, r3, r4) := h
 clear h
 replace H := Option.bind_eq_some_iff.mp H
 obtain ⟨t532, A20, H⟩ := H
 try dsimp only at H
 have A2 := am A20
 clear A20
 have H' := am H
 clear H
 go_enter Tryd.func37, Tryd.ntmps37
 go_wp2_with (first | ((with_reducible refine gate_callee (f := 47) rfl ?_); refine goesL_ (some 13) rfl rfl Tryd.func47 (by kernel_rfl) rfl #[.slice none 0 0] rfl lz ?_; (refine (examboardref11_Of.calls k _ _ ([] : List Int) t532 _ ?side1 ?side2 A2.out).mono ?_); (case side1 => exact Kd.C_nil _ _); (case side2 => exact Nat.le_refl _); rintro e w' ⟨rfl, ⟨nd, rfl⟩⟩; refine ⟨_, rfl, ?_⟩))
 go_loopg [6, 7, 8] k (fun kq v6 v7 v8 w' => ∃ (x6_1 : List (S43)) (x7_1 : Int) (x8_1 : Int), v7 = .int .i64 x7_1 ∧ v8 = .int .u64 x8_1 ∧ Aside0 (examboardref49_read.l0 kq l0 x6_1 x7_1 x8_1 = some (r1, r2, r3, r4)) ∧ Aside0 (kq ≤ k) ∧ Aside0 (Kd.N k43 43 w' w.heap.size (fun k_ => (w.heap.size ≤ k_)) v6 x6_1) ∧ Aside0 (Below w.heap.size w w'))
 case atStart => exact ⟨(([] : List (S43))), (0), (t532), rfz, rfz, H', ⟨Nat.le_refl _⟩, ⟨nlz⟩, ⟨hz HB.out⟩⟩
 case round =>
  clear H'
  obtain ⟨x6_1, x7_1, x8_1, rfl, rfl, HA, HK1, HO_6, HB⟩ := hrel
  cases gk with
  | zero => exact absurd HA.out (by simp [examboardref49_read.l0])
  | succ k1 =>
   have H := HA.out
   clear HA
   simp only [examboardref49_read.l0] at H
   by_cases c3 : x7_1 < (l0.length : Int)
   ·
    rw [if_pos c3] at H
    have c3b0 : decide (x7_1 < (l0.length : Int)) = true := decide_eq_true c3
    clear c3
    replace H := it_ H
    obtain ⟨c4, H⟩ := H
    have c4b0 := eq_true c4
    have c4b1 : decide (0 ≤ x7_1) = true := decide_eq_true c4
    clear c4
    replace H := it_ H
    obtain ⟨c5, H⟩ := H
    have c5b0 := eq_true c5
    have c5b1 : decide (x7_1 ≤ (l0.length : Int)) = true := decide_eq_true c5
    clear c5
    replace H := Option.bind_eq_some_iff.mp H
    obtain ⟨⟨t534, t535, t536, t537, t538, t541, t542, t543⟩, A60, H⟩ := H
    try dsimp only at H
    have A6 := am A60
    clear A60
    by_cases c7 : t543 = 0
    ·
     rw [if_pos c7] at H
     have c7b0 : (t543 == 0) = true := beq_iff_eq.mpr c7
     have c7b1 : (t543 != 0) = false := bne_eq_false_iff_eq.mpr c7
     clear c7
     replace H := it_ H
     obtain ⟨c8, H⟩ := H
     have LMc8 := am c8
     clear c8
     obtain ⟨y545, hy545⟩ : ∃ y_ : List (S43), y_ = (x6_1 ++ [(⟨t534, t535, t536, t537, t538⟩ : S43)]) := ⟨_, rfl⟩
     replace H : (examboardref49_read.l0 k1 l0 y545 (wrap64 (x7_1 + t541)) t542) = some (r1, r2, r3, r4) := by first | (rw [hy545]; with_reducible exact H) | (have H2_ := (Option.bind_some _ _).symm.trans H; rw [hy545]; with_reducible exact H2_) | (have H2_ := (Option.bind_some _ _).symm.trans H; with_reducible exact H2_) | with_reducible exact H | (rw [hy545]; exact H) | exact H
     have Ny545 := am hy545
     clear hy545
     have H' := am H
     clear H
     obtain ⟨i09, hi09, _, hsz9, _⟩ := info_parts info5
     obtain ⟨A9, hcut9, hA9, hC9⟩ := print_drop_of (P := Tryd.prog) (Value.int .u8) 0 24 5 .i64 Tryd.underlying24 hi09 hsz9 A0 c0 l0 x7_1 (of_decide_eq_true az) (of_decide_eq_true az) HC0.out
     have HR533 := am (Kd.C_of_reads (h1 := fun _ => rfl) (hA9 _ (Kd.reads_of_C HR0.out)))
     have HC533 := am hC9
     clear hA9 hC9 hi09 hsz9
     obtain ⟨Ao10, co10, eo10⟩ := Kd.N_slice HO_6.out
     subst eo10
     go_wp2_with (first | ((with_reducible refine gate_callee (f := 48) rfl ?_); refine goesL_ (some 25) rfl rfl Tryd.func48 (by kernel_rfl) rfl #[.slice A9 (l0.drop (x7_1 : Int).toNat).length (c0 - x7_1.toNat), .int .i64 (x6_1.length : Int), .int .u64 x8_1] rfl (by (try simp only [List.map_toArray, List.map_cons, List.map_nil]); first | done | (rw [show (l0.drop (x7_1 : Int).toNat).length = (l0.length - x7_1.toNat) from List.length_drop] <;> rfl) | rfl | (simp only [List.length_drop, List.length_take]; rfl)) ?_; (with_reducible refine (examboardref49_entry.calls k1 _ _ (l0.drop (x7_1 : Int).toNat) (x6_1.length : Int) x8_1 t534 t535 t536 t537 t538 t541 t542 t543 _ ?side1 ?side2 A6.out).mono ?_); (case side1 => exact cz (Kd.C_below HR533.out HB.out)); (case side2 => exact HC533.out); rintro e w11 ⟨v539, rfl, ho0, hb⟩; refine ⟨_, rfl, ?_⟩; have HO540 := am (Kd.V_lower (Kd.V_mono (ok' := fun k_ => (w.heap.size ≤ k_) ∧ some k_ ≠ (.slice Ao10 x6_1.length co10 : Value).ownBlock) ho0 (fun k_ hk_ => ⟨(Nat.le_trans (below_size (hz HB.out)) hk_), (Kd.fresh' (Kd.N_lt (nz HO_6.out)) k_ hk_)⟩)) (below_size (hz HB.out))); replace HO_6 := am (Kd.N_below (nz HO_6.out) hb); replace HB := am (below_step (hz HB.out) hb)) | ((with_reducible refine gate_dst (N := 9) rfl ?_); refine box_event rfl (N := 9) rfl (cs := #[.int .i64 0, .int .i64 0, .int .i64 0, .string (⟨#[]⟩ : ByteArray), .slice none 0 0]) (t := 43) gz ?_; intro gb544 hg w12 hbox hb; replace HO_6 := am (Kd.N_below (Kd.N_elderB (nz HO_6.out) gb544 (Nat.le_of_eq hg.symm)) hb); replace HO540 := am (Kd.V_below (Kd.V_elderB (vz HO540.out) gb544 (Nat.le_of_eq hg.symm)) hb); have BK544 := am (hbox); have GW544 := am ((bs hg (hz HB.out) : w.heap.size ≤ gb544)); have GE544 := am ((bs hg (hz HB.out) : w.heap.size ≤ gb544)); replace HB := am (below_step (hz HB.out) hb); clear hb hbox hg; obtain ⟨hcz13_0, hcz13_1, hcz13_2, hcz13_3, hcz13_4⟩ := cs5 BK544.out; obtain ⟨hfz13_0, hfz13_1, hfz13_2, hfz13_3, hfz13_4⟩ := fs5 BK544.out; obtain ⟨Ao14, co14, eo14⟩ := Kd.V_slice HO540.out; subst eo14) | ((with_reducible refine gate_store (t := 43) (p := 9) rfl ?_); refine store_event (t := 43) (p := 9) (v := ?vo_w15) (w1 := (((((w12.setCell ⟨gb544, 0, none⟩ (.int .i64 t534)).setCell ⟨gb544, 1, none⟩ (.int .i64 t535)).setCell ⟨gb544, 2, none⟩ (.int .i64 t536)).setCell ⟨gb544, 3, none⟩ (.string t537)).setCell ⟨gb544, 4, none⟩ (.slice Ao14 t538.length co14))) ?hg ?ho ?hn ?hr ?_; (case ho => rfl); (case hg => rfl); (case hn => rfl); (case hr => exact gz); intro w15 hw; replace HO_6 : Aside0 (Kd.N k43 43 w15 w.heap.size (fun k_ => (w.heap.size ≤ k_) ∧ k_ ≠ gb544) (.slice Ao10 x6_1.length co10) x6_1) := ⟨(by rw [hw]; exact (nz (Kd.N_mono (Kd.N_far (p := ⟨gb544, 4, none⟩) (Kd.N_far (p := ⟨gb544, 3, none⟩) (Kd.N_far (p := ⟨gb544, 2, none⟩) (Kd.N_far (p := ⟨gb544, 1, none⟩) (Kd.N_far (p := ⟨gb544, 0, none⟩) (Kd.N_mono HO_6.out (fun k_ hk => (⟨hk, hk.2⟩ : _ ∧ k_ ≠ gb544))) (fun _ hk => hk.2) (.int .i64 t534)) (fun _ hk => hk.2) (.int .i64 t535)) (fun _ hk => hk.2) (.int .i64 t536)) (fun _ hk => hk.2) (.string t537)) (fun _ hk => hk.2) (.slice Ao14 t538.length co14)) (fun _ hk => ⟨hk.1.1, hk.1.2⟩))))⟩; replace HO540 : Aside0 (Kd.V k43 43 w15 w.heap.size (fun k_ => (w.heap.size ≤ k_) ∧ some k_ ≠ (.slice Ao10 x6_1.length co10 : Value).ownBlock ∧ k_ ≠ gb544) (.slice Ao14 t538.length co14) t538) := ⟨(by rw [hw]; exact (vz (Kd.V_mono (Kd.V_far (p := ⟨gb544, 4, none⟩) (Kd.V_far (p := ⟨gb544, 3, none⟩) (Kd.V_far (p := ⟨gb544, 2, none⟩) (Kd.V_far (p := ⟨gb544, 1, none⟩) (Kd.V_far (p := ⟨gb544, 0, none⟩) (Kd.V_mono HO540.out (fun k_ hk => (⟨hk, hk.2⟩ : _ ∧ k_ ≠ gb544))) (fun _ hk => hk.2) (.int .i64 t534)) (fun _ hk => hk.2) (.int .i64 t535)) (fun _ hk => hk.2) (.int .i64 t536)) (fun _ hk => hk.2) (.string t537)) (fun _ hk => hk.2) (.slice Ao14 t538.length co14)) (fun _ hk => ⟨hk.1.1.1, ⟨hk.1.1.2, hk.1.2⟩⟩))))⟩; replace BK544 : Aside0 (w15.heap[gb544]? = some (.cells #[.int .i64 t534, .int .i64 t535, .int .i64 t536, .string t537, .slice Ao14 t538.length co14] 43 (0, 0))) := ⟨(by rw [hw]; exact (bp BK544.out))⟩; replace HB : Aside0 (Below w.heap.size w w15) := ⟨(by rw [hw]; exact (hz1 HB.out GE544.out))⟩; clear hw; obtain ⟨hcz16_0, hcz16_1, hcz16_2, hcz16_3, hcz16_4⟩ := cs5 BK544.out; obtain ⟨hfz16_0, hfz16_1, hfz16_2, hfz16_3, hfz16_4⟩ := fs5 BK544.out) | ((with_reducible refine gate_builtin (b := .append) (xs := #[.tmp 36, .tmp 38]) rfl ?_); at_builtin; refine Kd.N_append k43 (w0 := w) w.heap.size rfl (.tmp 36) (.tmp 38) 22 43 (.agg #[(.int .i64 0), (.int .i64 0), (.int .i64 0), (.string ⟨#[]⟩), (.slice none 0 0)]) 64 rfl Tryd.underlying22 info43 rfl (by decide) (by omega) (.slice Ao10 x6_1.length co10) x6_1 (⟨t534, t535, t536, t537, t538⟩ : S43) [.int .i64 t534, .int .i64 t535, .int .i64 t536, .string t537, .slice Ao14 t538.length co14] (fun k_ => (w.heap.size ≤ k_) ∧ k_ ≠ gb544) (fun k_ => ((fun k_ => (w.heap.size ≤ k_) ∧ k_ ≠ gb544)) k_ ∧ some k_ ≠ (.slice Ao10 x6_1.length co10 : Value).ownBlock) rfl rfl ?aP (fun _ hk => hk) ?aF ?aO ?aB ?aS ?aL ?_; (case aP => exact (k43_mkF _ _ (⟨t534, t535, t536, t537, t538⟩ : S43) (Kd.V_reads' (Kd.V_mono (ok' := (fun k_ => ((fun k_ => (w.heap.size ≤ k_) ∧ k_ ≠ gb544)) k_ ∧ some k_ ≠ (.slice Ao10 x6_1.length co10 : Value).ownBlock)) (HO540.out) (fun k_ hk => ⟨⟨hk.1, hk.2.2⟩, hk.2.1⟩))).2.1 (Kd.V_F (vz (Kd.V_mono (ok' := (fun k_ => ((fun k_ => (w.heap.size ≤ k_) ∧ k_ ≠ gb544)) k_ ∧ some k_ ≠ (.slice Ao10 x6_1.length co10 : Value).ownBlock)) (HO540.out) (fun k_ hk => ⟨⟨hk.1, hk.2.2⟩, hk.2.1⟩)))))); (case aB => exact (hz1 HB.out GE544.out)); (case aF => exact (fun k_ hk => ⟨(Nat.le_trans (below_size (hz1 HB.out GE544.out)) hk), Kd.freshB (g := gb544) (o := .cells #[.int .i64 t534, .int .i64 t535, .int .i64 t536, .string t537, .slice Ao14 t538.length co14] 43 (0, 0)) (bz BK544.out) k_ hk⟩)); (case aO => exact (nz HO_6.out)); (case aS => exact (below_size (hz1 HB.out GE544.out))); (case aL => have := LMc8.out; omega); intro v546 w17 ho hb hg hat; rw [← Ny545.out] at ho; replace HO540 := am (Kd.V_afterv (ok := (fun k_ => (w.heap.size ≤ k_) ∧ k_ ≠ gb544)) (vz (Kd.V_mono HO540.out (fun _ hk => ⟨⟨hk.1, hk.2.2⟩, hk.2.1⟩))) hg hat); replace BK544 := am (blk_grown (bz BK544.out) hg (Kd.N_away HO_6.out (fun _ hk => hk.2))); replace HB := am (hb); have HO547 := am (ho); clear HO_6; clear ho hb hg hat))
     go_roundg k1
     case measure => have := HK1.out; omega
     case rel => exact ⟨(y545), (wrap64 (x7_1 + t541)), (t542), rfz, rfz, H', ⟨by have := HK1.out; omega⟩, ⟨by (with_reducible repeat (first | apply Kd.N_alloc | apply Kd.N_drewN | apply Kd.N_drew)); exact Kd.N_mono HO547.out (fun _ hk => hk.1)⟩, ⟨hz1 HB.out GE544.out⟩⟩
    ·
     rw [if_neg c7] at H
     have c7b0 : (t543 == 0) = false := beq_eq_false_iff_ne.mpr c7
     have c7b1 : (t543 != 0) = true := bne_iff_ne.mpr c7
     simp only [Option.some.injEq, Prod.mk.injEq] at H
     obtain ⟨rfl, rfl, rfl, rfl⟩ := H
     obtain ⟨i018, hi018, _, hsz18, _⟩ := info_parts info5
     obtain ⟨A18, hcut18, hA18, hC18⟩ := print_drop_of (P := Tryd.prog) (Value.int .u8) 0 24 5 .i64 Tryd.underlying24 hi018 hsz18 A0 c0 l0 x7_1 (of_decide_eq_true az) (of_decide_eq_true az) HC0.out
     have HR533 := am (Kd.C_of_reads (h1 := fun _ => rfl) (hA18 _ (Kd.reads_of_C HR0.out)))
     have HC533 := am hC18
     clear hA18 hC18 hi018 hsz18
     obtain ⟨Ao19, co19, eo19⟩ := Kd.N_slice HO_6.out
     subst eo19
     go_wp2_with (first | ((with_reducible refine gate_callee (f := 48) rfl ?_); refine goesL_ (some 25) rfl rfl Tryd.func48 (by kernel_rfl) rfl #[.slice A18 (l0.drop (x7_1 : Int).toNat).length (c0 - x7_1.toNat), .int .i64 (x6_1.length : Int), .int .u64 x8_1] rfl (by (try simp only [List.map_toArray, List.map_cons, List.map_nil]); first | done | (rw [show (l0.drop (x7_1 : Int).toNat).length = (l0.length - x7_1.toNat) from List.length_drop] <;> rfl) | rfl | (simp only [List.length_drop, List.length_take]; rfl)) ?_; (with_reducible refine (examboardref49_entry.calls k1 _ _ (l0.drop (x7_1 : Int).toNat) (x6_1.length : Int) x8_1 t534 t535 t536 t537 t538 t541 t542 t543 _ ?side1 ?side2 A6.out).mono ?_); (case side1 => exact cz (Kd.C_below HR533.out HB.out)); (case side2 => exact HC533.out); rintro e w20 ⟨v539, rfl, ho0, hb⟩; refine ⟨_, rfl, ?_⟩; have HO540 := am (Kd.V_lower (Kd.V_mono (ok' := fun k_ => (w.heap.size ≤ k_) ∧ some k_ ≠ (.slice Ao19 x6_1.length co19 : Value).ownBlock) ho0 (fun k_ hk_ => ⟨(Nat.le_trans (below_size (hz HB.out)) hk_), (Kd.fresh' (Kd.N_lt (nz HO_6.out)) k_ hk_)⟩)) (below_size (hz HB.out))); replace HO_6 := am (Kd.N_below (nz HO_6.out) hb); replace HB := am (below_step (hz HB.out) hb)) | ((with_reducible refine gate_dst (N := 9) rfl ?_); refine box_event rfl (N := 9) rfl (cs := #[.int .i64 0, .int .i64 0, .int .i64 0, .string (⟨#[]⟩ : ByteArray), .slice none 0 0]) (t := 43) gz ?_; intro gb544 hg w21 hbox hb; replace HO_6 := am (Kd.N_below (Kd.N_elderB (nz HO_6.out) gb544 (Nat.le_of_eq hg.symm)) hb); replace HO540 := am (Kd.V_below (Kd.V_elderB (vz HO540.out) gb544 (Nat.le_of_eq hg.symm)) hb); have BK544 := am (hbox); have GW544 := am ((bs hg (hz HB.out) : w.heap.size ≤ gb544)); have GE544 := am ((bs hg (hz HB.out) : w.heap.size ≤ gb544)); replace HB := am (below_step (hz HB.out) hb); clear hb hbox hg; obtain ⟨hcz22_0, hcz22_1, hcz22_2, hcz22_3, hcz22_4⟩ := cs5 BK544.out; obtain ⟨hfz22_0, hfz22_1, hfz22_2, hfz22_3, hfz22_4⟩ := fs5 BK544.out; obtain ⟨Ao23, co23, eo23⟩ := Kd.V_slice HO540.out; subst eo23))
     refine bodyPost_ret (results_list (rs := [.tmp 2, .tmp 3, .tmp 4, .tmp 5]) rfl (by simp) (.tmp (.tmp (.tmp (.tmp .nil))))) rfl ?_
     exact ⟨_, ew, by (with_reducible repeat (first | apply Kd.N_alloc | apply Kd.N_drewN | apply Kd.N_drew)); exact Kd.N_mono (Kd.N_far (p := ⟨gb544, 4, none⟩) (Kd.N_far (p := ⟨gb544, 3, none⟩) (Kd.N_far (p := ⟨gb544, 2, none⟩) (Kd.N_far (p := ⟨gb544, 1, none⟩) (Kd.N_far (p := ⟨gb544, 0, none⟩) (Kd.N_mono HO_6.out (fun k_ hk => (⟨hk, hk.2⟩ : _ ∧ k_ ≠ gb544))) (fun _ hk => hk.2) (.int .i64 t534)) (fun _ hk => hk.2) (.int .i64 t535)) (fun _ hk => hk.2) (.int .i64 t536)) (fun _ hk => hk.2) (.string t537)) (fun _ hk => hk.2) (.slice Ao23 t538.length co23)) (fun _ hk => hk.1.1), hz1 HB.out GE544.out⟩
   ·
    rw [if_neg c3] at H
    have c3b0 : decide (x7_1 < (l0.length : Int)) = false := decide_eq_false c3
    clear c3
    simp only [Option.some.injEq, Prod.mk.injEq] at H
    obtain ⟨rfl, rfl, rfl, rfl⟩ := H
    go_wp2
    refine bodyPost_ret (results_list (rs := [.tmp 2, .tmp 3, .tmp 4, .tmp 5]) rfl (by simp) (.tmp (.tmp (.tmp (.tmp .nil))))) rfl ?_
    exact ⟨_, ew, by (with_reducible repeat (first | apply Kd.N_alloc | apply Kd.N_drewN | apply Kd.N_drew)); exact HO_6.out, hz HB.out⟩

end Go.Proofs.YteeggfnailpcpaaDoor.Q
