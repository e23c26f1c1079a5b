/- Made by wip/myprint.py of this session (it drives the kit's printer): what the calls of the Go functions come to, as plain Lean functions, and the row of a law over them; without conditions. -/
import Derived.Test.YteeggfnailpcpaaDoorQx0
namespace Go.Proofs.YteeggfnailpcpaaDoor.Q
open Go.RowKit Go.Proofs.YteeggfnailpcpaaDoorW.PrintWords Go.Proofs.YteeggfnailpcpaaDoorW.PrintLast Go.Proofs.YteeggfnailpcpaaDoorW.PrintMore
attribute [local go_sem] max2_int min2_int max_two min_two max_three min_three max_four min_four   -- for this text's walks alone
set_option linter.unusedVariables false
set_option linter.unusedSimpArgs false

/-! ### examboardref10_fits: function 49 -/
mutual
def examboardref10_fits.j0 : Nat → Int → Bool → Int → Int → Int → ByteArray → List (S43) → Option (Bool)
 | 0, _, _, _, _, _, _, _ => none
 | k + 1, x1, x29, x549000, x549001, x549002, x549003, x549004 => if x29 = true then (some false) else (if x549001 = 1 then (if x549001 = 2 then (if x549001 = 3 then (examboardref10_fits.j1 k x1 false x549000 x549001 x549002 x549003 x549004) else (examboardref10_fits.j1 k x1 (decide ((x549004.length : Int) > 0)) x549000 x549001 x549002 x549003 x549004)) else (if (x549003.size : Int) > 0 then (examboardref10_fits.j1 k x1 true x549000 x549001 x549002 x549003 x549004) else (if x549001 = 3 then (examboardref10_fits.j1 k x1 false x549000 x549001 x549002 x549003 x549004) else (examboardref10_fits.j1 k x1 (decide ((x549004.length : Int) > 0)) x549000 x549001 x549002 x549003 x549004)))) else (if x549002 = 0 then (if x549001 = 2 then (if x549001 = 3 then (examboardref10_fits.j1 k x1 false x549000 x549001 x549002 x549003 x549004) else (examboardref10_fits.j1 k x1 (decide ((x549004.length : Int) > 0)) x549000 x549001 x549002 x549003 x549004)) else (if (x549003.size : Int) > 0 then (examboardref10_fits.j1 k x1 true x549000 x549001 x549002 x549003 x549004) else (if x549001 = 3 then (examboardref10_fits.j1 k x1 false x549000 x549001 x549002 x549003 x549004) else (examboardref10_fits.j1 k x1 (decide ((x549004.length : Int) > 0)) x549000 x549001 x549002 x549003 x549004)))) else (examboardref10_fits.j1 k x1 true x549000 x549001 x549002 x549003 x549004)))
def examboardref10_fits.j1 : Nat → Int → Bool → Int → Int → Int → ByteArray → List (S43) → Option (Bool)
 | 0, _, _, _, _, _, _, _ => none
 | k + 1, x1, x59, x549000, x549001, x549002, x549003, x549004 => if x59 = true then (some false) else (if x549001 < 1 then (examboardref10_fits.j2 k x1 true x549000 x549001 x549002 x549003 x549004) else (examboardref10_fits.j2 k x1 (decide (x549001 > 3)) x549000 x549001 x549002 x549003 x549004))
def examboardref10_fits.j2 : Nat → Int → Bool → Int → Int → Int → ByteArray → List (S43) → Option (Bool)
 | 0, _, _, _, _, _, _, _ => none
 | k + 1, x1, x67, x549000, x549001, x549002, x549003, x549004 => if x67 = true then (some false) else (examboardref10_fits.l0 k x1 0 x549000 x549001 x549002 x549003 x549004)
def examboardref10_fits.l0 : Nat → Int → Int → Int → Int → Int → ByteArray → List (S43) → Option (Bool)
 | 0, _, _, _, _, _, _, _ => none
 | k + 1, x1, x5, x549000, x549001, x549002, x549003, x549004 => if x5 < (x549004.length : Int) then (if 0 ≤ x5 then ((examboardref10_fits.f k ((rd_T43 x549004 x5).f0) ((rd_T43 x549004 x5).f1) ((rd_T43 x549004 x5).f2) ((rd_T43 x549004 x5).f3) ((rd_T43 x549004 x5).f4) (wrap64 (x1 + 1))).bind fun t550 => (if t550 = true then (examboardref10_fits.l0 k x1 (wrap64 (x5 + 1)) x549000 x549001 x549002 x549003 x549004) else (some false))) else (none)) else (some true)
def examboardref10_fits.f : Nat → Int → Int → Int → ByteArray → List (S43) → Int → Option (Bool)
 | 0, _, _, _, _, _, _ => none
 | k + 1, a0_0, a0_1, a0_2, a0_3, l0_4, a1 => if a1 > 8 then (examboardref10_fits.j0 k a1 true a0_0 a0_1 a0_2 a0_3 l0_4) else (if a0_0 < 0 then (examboardref10_fits.j0 k a1 true a0_0 a0_1 a0_2 a0_3 l0_4) else (if a0_0 > 9999999 then (examboardref10_fits.j0 k a1 true a0_0 a0_1 a0_2 a0_3 l0_4) else (if (a0_3.size : Int) > 2000 then (examboardref10_fits.j0 k a1 true a0_0 a0_1 a0_2 a0_3 l0_4) else (examboardref10_fits.j0 k a1 (decide ((l0_4.length : Int) > 1024)) a0_0 a0_1 a0_2 a0_3 l0_4))))
end
theorem examboardref10_fits.mono_l : ∀ k, (∀ y0 y1 y2 y3 y4 y5, LeO (examboardref10_fits.f k y0 y1 y2 y3 y4 y5) (examboardref10_fits.f (k + 1) y0 y1 y2 y3 y4 y5)) ∧ (∀ y0 y1 y2 y3 y4 y5 y6, LeO (examboardref10_fits.j0 k y0 y1 y2 y3 y4 y5 y6) (examboardref10_fits.j0 (k + 1) y0 y1 y2 y3 y4 y5 y6)) ∧ (∀ y0 y1 y2 y3 y4 y5 y6, LeO (examboardref10_fits.j1 k y0 y1 y2 y3 y4 y5 y6) (examboardref10_fits.j1 (k + 1) y0 y1 y2 y3 y4 y5 y6)) ∧ (∀ y0 y1 y2 y3 y4 y5 y6, LeO (examboardref10_fits.j2 k y0 y1 y2 y3 y4 y5 y6) (examboardref10_fits.j2 (k + 1) y0 y1 y2 y3 y4 y5 y6)) ∧ (∀ y0 y1 y2 y3 y4 y5 y6, LeO (examboardref10_fits.l0 k y0 y1 y2 y3 y4 y5 y6) (examboardref10_fits.l0 (k + 1) y0 y1 y2 y3 y4 y5 y6))
 | 0 => ⟨fun _ _ _ _ _ _ r h => by simp [examboardref10_fits.f] at h, fun _ _ _ _ _ _ _ r h => by simp [examboardref10_fits.j0] at h, fun _ _ _ _ _ _ _ r h => by simp [examboardref10_fits.j1] at h, fun _ _ _ _ _ _ _ r h => by simp [examboardref10_fits.j2] at h, fun _ _ _ _ _ _ _ r h => by simp [examboardref10_fits.l0] at h⟩
 | k + 1 => by
  obtain ⟨ih0, ih1, ih2, ih3, ih4⟩ := examboardref10_fits.mono_l k
  refine ⟨?_, ?_, ?_, ?_, ?_⟩
  ·
   intro y0 y1 y2 y3 y4 y5
   unfold examboardref10_fits.f
   repeat' first
   | (with_reducible exact ih0 _ _ _ _ _ _)
   | (with_reducible exact ih1 _ _ _ _ _ _ _)
   | (with_reducible exact ih2 _ _ _ _ _ _ _)
   | (with_reducible exact ih3 _ _ _ _ _ _ _)
   | (with_reducible exact ih4 _ _ _ _ _ _ _)
   | (with_reducible exact LeO.refl _)
   | (with_reducible exact LeO.none _)
   | (with_reducible refine LeO.ite ?_ ?_)
   | (with_reducible refine LeO.bind ?_ (fun _ => ?_))
   | exact ih0 _ _ _ _ _ _
   | exact ih1 _ _ _ _ _ _ _
   | exact ih2 _ _ _ _ _ _ _
   | exact ih3 _ _ _ _ _ _ _
   | exact ih4 _ _ _ _ _ _ _
   | exact LeO.none _
   | refine LeO.ite ?_ ?_
   | refine LeO.bind ?_ (fun _ => ?_)
  ·
   intro y0 y1 y2 y3 y4 y5 y6
   unfold examboardref10_fits.j0
   repeat' first
   | (with_reducible exact ih0 _ _ _ _ _ _)
   | (with_reducible exact ih1 _ _ _ _ _ _ _)
   | (with_reducible exact ih2 _ _ _ _ _ _ _)
   | (with_reducible exact ih3 _ _ _ _ _ _ _)
   | (with_reducible exact ih4 _ _ _ _ _ _ _)
   | (with_reducible exact LeO.refl _)
   | (with_reducible exact LeO.none _)
   | (with_reducible refine LeO.ite ?_ ?_)
   | (with_reducible refine LeO.bind ?_ (fun _ => ?_))
   | exact ih0 _ _ _ _ _ _
   | exact ih1 _ _ _ _ _ _ _
   | exact ih2 _ _ _ _ _ _ _
   | exact ih3 _ _ _ _ _ _ _
   | exact ih4 _ _ _ _ _ _ _
   | exact LeO.none _
   | refine LeO.ite ?_ ?_
   | refine LeO.bind ?_ (fun _ => ?_)
  ·
   intro y0 y1 y2 y3 y4 y5 y6
   unfold examboardref10_fits.j1
   repeat' first
   | (with_reducible exact ih0 _ _ _ _ _ _)
   | (with_reducible exact ih1 _ _ _ _ _ _ _)
   | (with_reducible exact ih2 _ _ _ _ _ _ _)
   | (with_reducible exact ih3 _ _ _ _ _ _ _)
   | (with_reducible exact ih4 _ _ _ _ _ _ _)
   | (with_reducible exact LeO.refl _)
   | (with_reducible exact LeO.none _)
   | (with_reducible refine LeO.ite ?_ ?_)
   | (with_reducible refine LeO.bind ?_ (fun _ => ?_))
   | exact ih0 _ _ _ _ _ _
   | exact ih1 _ _ _ _ _ _ _
   | exact ih2 _ _ _ _ _ _ _
   | exact ih3 _ _ _ _ _ _ _
   | exact ih4 _ _ _ _ _ _ _
   | exact LeO.none _
   | refine LeO.ite ?_ ?_
   | refine LeO.bind ?_ (fun _ => ?_)
  ·
   intro y0 y1 y2 y3 y4 y5 y6
   unfold examboardref10_fits.j2
   repeat' first
   | (with_reducible exact ih0 _ _ _ _ _ _)
   | (with_reducible exact ih1 _ _ _ _ _ _ _)
   | (with_reducible exact ih2 _ _ _ _ _ _ _)
   | (with_reducible exact ih3 _ _ _ _ _ _ _)
   | (with_reducible exact ih4 _ _ _ _ _ _ _)
   | (with_reducible exact LeO.refl _)
   | (with_reducible exact LeO.none _)
   | (with_reducible refine LeO.ite ?_ ?_)
   | (with_reducible refine LeO.bind ?_ (fun _ => ?_))
   | exact ih0 _ _ _ _ _ _
   | exact ih1 _ _ _ _ _ _ _
   | exact ih2 _ _ _ _ _ _ _
   | exact ih3 _ _ _ _ _ _ _
   | exact ih4 _ _ _ _ _ _ _
   | exact LeO.none _
   | refine LeO.ite ?_ ?_
   | refine LeO.bind ?_ (fun _ => ?_)
  ·
   intro y0 y1 y2 y3 y4 y5 y6
   unfold examboardref10_fits.l0
   repeat' first
   | (with_reducible exact ih0 _ _ _ _ _ _)
   | (with_reducible exact ih1 _ _ _ _ _ _ _)
   | (with_reducible exact ih2 _ _ _ _ _ _ _)
   | (with_reducible exact ih3 _ _ _ _ _ _ _)
   | (with_reducible exact ih4 _ _ _ _ _ _ _)
   | (with_reducible exact LeO.refl _)
   | (with_reducible exact LeO.none _)
   | (with_reducible refine LeO.ite ?_ ?_)
   | (with_reducible refine LeO.bind ?_ (fun _ => ?_))
   | exact ih0 _ _ _ _ _ _
   | exact ih1 _ _ _ _ _ _ _
   | exact ih2 _ _ _ _ _ _ _
   | exact ih3 _ _ _ _ _ _ _
   | exact ih4 _ _ _ _ _ _ _
   | exact LeO.none _
   | refine LeO.ite ?_ ?_
   | refine LeO.bind ?_ (fun _ => ?_)
theorem examboardref10_fits.mono : ∀ a0 a1 a2 a3 a4 a5 k, LeO (examboardref10_fits.f k a0 a1 a2 a3 a4 a5) (examboardref10_fits.f (k + 1) a0 a1 a2 a3 a4 a5) := by
 intro a0 a1 a2 a3 a4 a5 k
 obtain ⟨ih0, ih1, ih2, ih3, ih4⟩ := examboardref10_fits.mono_l k
 exact ih0 a0 a1 a2 a3 a4 a5
set_option maxHeartbeats 8000000 in
set_option maxRecDepth 100000 in
theorem examboardref10_fits.calls (k : Nat) : ∀ (a0_0 : Int) (a0_1 : Int) (a0_2 : Int) (a0_3 : ByteArray) (A0_4 : Option Addr) (c0_4 : Nat) (l0_4 : List (S43)) (a1 : Int) (r : Bool) (w : World) (hr0_4 : Kd.C k43 w A0_4 l0_4.length l0_4) (hc0_4 : l0_4.length ≤ c0_4) (h : examboardref10_fits.f k a0_0 a0_1 a0_2 a0_3 l0_4 a1 = some r),
  Calls Tryd.prog 49 #[.agg #[.int .i64 a0_0, .int .i64 a0_1, .int .i64 a0_2, .string a0_3, .slice A0_4 l0_4.length c0_4], .int .i64 a1] w fun e w' => e = .returned (.bool r) ∧ Below w.heap.size w w' := by
 induction k using Nat.strongRecOn with
 | _ k ih =>
 intro a0_0 a0_1 a0_2 a0_3 A0_4 c0_4 l0_4 a1 r w hr0_4 hc0_4 h
 cases k with
 | zero => exact absurd h (by simp [examboardref10_fits.f])
 | succ k =>
 simp only [examboardref10_fits.f] at h
 have hu43 := Tryd.underlying43
 have HR0_4 := am hr0_4
 have HC0_4 := am hc0_4
 clear hr0_4 hc0_4
 have HB := am (Below.refl w.heap.size w)
 have H : (if a1 > 8 then (examboardref10_fits.j0 k a1 true a0_0 a0_1 a0_2 a0_3 l0_4) else (if a0_0 < 0 then (examboardref10_fits.j0 k a1 true a0_0 a0_1 a0_2 a0_3 l0_4) else (if a0_0 > 9999999 then (examboardref10_fits.j0 k a1 true a0_0 a0_1 a0_2 a0_3 l0_4) else (if (a0_3.size : Int) > 2000 then (examboardref10_fits.j0 k a1 true a0_0 a0_1 a0_2 a0_3 l0_4) else (examboardref10_fits.j0 k a1 (decide ((l0_4.length : Int) > 1024)) a0_0 a0_1 a0_2 a0_3 l0_4))))) = some r := h
 clear h
 have HC3 := am H
 clear H
 go_enter Tryd.func49, Tryd.ntmps49
 go_upto_region 1 with (first | ((with_reducible refine gate_dst (N := 2) rfl ?_); (try (refine gate_guard (by rfl) ?_; dsimp only)); refine box_event rfl (N := 2) rfl (cs := #[.int .i64 a0_0, .int .i64 a0_1, .int .i64 a0_2, .string a0_3, .slice A0_4 l0_4.length c0_4]) (t := 43) gz ?_; intro gb548 hg w4 hbox hb; have BK548 := am (hbox); have GW548 := am ((bs hg (hz HB.out) : w.heap.size ≤ gb548)); have GE548 := am ((bs hg (hz HB.out) : w.heap.size ≤ gb548)); replace HB := am (below_step (hz HB.out) hb); clear hb hbox hg))
 (try simp only [Act.put, List.setIfInBounds_toArray, List.set_cons_zero, List.set_cons_succ])
 go_cut [29] (fun v29 wc => ∃ (kq : Nat) (x29_2 : Bool), v29 = .bool x29_2 ∧ Aside0 (examboardref10_fits.j0 kq a1 x29_2 a0_0 a0_1 a0_2 a0_3 l0_4 = some r) ∧ Aside0 (kq ≤ k) ∧ Aside0 (wc.heap[gb548]? = some (.cells #[.int .i64 a0_0, .int .i64 a0_1, .int .i64 a0_2, .string a0_3, (.slice A0_4 l0_4.length c0_4)] 43 (0, 0))) ∧ Aside0 (Below w.heap.size w wc))
 case first =>
  have H := HC3.out
  clear HC3
  by_cases c5 : a1 > 8
  ·
   rw [if_pos c5] at H
   have c5b0 : decide (8 < a1) = true := decide_eq_true c5
   clear c5
   (first | rw [c5b0] | (simp only [i64_w, i32_w]; rw [c5b0]) | skip)
   have H' := am H
   clear H
   go_wp2
   go_meet
   case rel => exact ⟨_, (true), rfz, H', ⟨by first | omega | exact Nat.le_refl _⟩, ⟨by (with_reducible repeat (first | refine blk_drewN ?_ _ | refine blk_drew ?_ | refine blk_alloc ?_ _)); exact BK548.out⟩, ⟨hz1 HB.out GE548.out⟩⟩
  ·
   rw [if_neg c5] at H
   have c5b0 : decide (8 < a1) = false := decide_eq_false c5
   clear c5
   (first | rw [c5b0] | (simp only [i64_w, i32_w]; rw [c5b0]) | skip)
   by_cases c6 : a0_0 < 0
   ·
    rw [if_pos c6] at H
    have c6b0 : decide (a0_0 < 0) = true := decide_eq_true c6
    clear c6
    have H' := am H
    clear H
    have hcz7_0 : w4.cell? ⟨gb548, 0, none⟩ = some (.int .i64 a0_0) := (blk_cell BK548.out 0).trans rfl
    have hcz7_1 : w4.cell? ⟨gb548, 1, none⟩ = some (.int .i64 a0_1) := (blk_cell BK548.out 1).trans rfl
    have hcz7_2 : w4.cell? ⟨gb548, 2, none⟩ = some (.int .i64 a0_2) := (blk_cell BK548.out 2).trans rfl
    have hcz7_3 : w4.cell? ⟨gb548, 3, none⟩ = some (.string a0_3) := (blk_cell BK548.out 3).trans rfl
    have hcz7_4 : w4.cell? ⟨gb548, 4, none⟩ = some (.slice A0_4 l0_4.length c0_4) := (blk_cell BK548.out 4).trans rfl
    have hfz7_0 := blk_frozen BK548.out 0
    have hfz7_1 := blk_frozen BK548.out 1
    have hfz7_2 := blk_frozen BK548.out 2
    have hfz7_3 := blk_frozen BK548.out 3
    have hfz7_4 := blk_frozen BK548.out 4
    go_wp2
    go_meet
    case rel => exact ⟨_, (true), rfz, H', ⟨by first | omega | exact Nat.le_refl _⟩, ⟨by (with_reducible repeat (first | refine blk_drewN ?_ _ | refine blk_drew ?_ | refine blk_alloc ?_ _)); exact BK548.out⟩, ⟨hz1 HB.out GE548.out⟩⟩
   ·
    rw [if_neg c6] at H
    have c6b0 : decide (a0_0 < 0) = false := decide_eq_false c6
    clear c6
    by_cases c8 : a0_0 > 9999999
    ·
     rw [if_pos c8] at H
     have c8b0 : decide (9999999 < a0_0) = true := decide_eq_true c8
     clear c8
     have H' := am H
     clear H
     have hcz9_0 : w4.cell? ⟨gb548, 0, none⟩ = some (.int .i64 a0_0) := (blk_cell BK548.out 0).trans rfl
     have hcz9_1 : w4.cell? ⟨gb548, 1, none⟩ = some (.int .i64 a0_1) := (blk_cell BK548.out 1).trans rfl
     have hcz9_2 : w4.cell? ⟨gb548, 2, none⟩ = some (.int .i64 a0_2) := (blk_cell BK548.out 2).trans rfl
     have hcz9_3 : w4.cell? ⟨gb548, 3, none⟩ = some (.string a0_3) := (blk_cell BK548.out 3).trans rfl
     have hcz9_4 : w4.cell? ⟨gb548, 4, none⟩ = some (.slice A0_4 l0_4.length c0_4) := (blk_cell BK548.out 4).trans rfl
     have hfz9_0 := blk_frozen BK548.out 0
     have hfz9_1 := blk_frozen BK548.out 1
     have hfz9_2 := blk_frozen BK548.out 2
     have hfz9_3 := blk_frozen BK548.out 3
     have hfz9_4 := blk_frozen BK548.out 4
     go_wp2
     go_meet
     case rel => exact ⟨_, (true), rfz, H', ⟨by first | omega | exact Nat.le_refl _⟩, ⟨by (with_reducible repeat (first | refine blk_drewN ?_ _ | refine blk_drew ?_ | refine blk_alloc ?_ _)); exact BK548.out⟩, ⟨hz1 HB.out GE548.out⟩⟩
    ·
     rw [if_neg c8] at H
     have c8b0 : decide (9999999 < a0_0) = false := decide_eq_false c8
     clear c8
     by_cases c10 : (a0_3.size : Int) > 2000
     ·
      rw [if_pos c10] at H
      have c10b0 : decide (2000 < (a0_3.size : Int)) = true := decide_eq_true c10
      have c10b1 : decide (2000 < a0_3.size) = true := decide_eq_true (by omega)
      clear c10
      have H' := am H
      clear H
      have hcz11_0 : w4.cell? ⟨gb548, 0, none⟩ = some (.int .i64 a0_0) := (blk_cell BK548.out 0).trans rfl
      have hcz11_1 : w4.cell? ⟨gb548, 1, none⟩ = some (.int .i64 a0_1) := (blk_cell BK548.out 1).trans rfl
      have hcz11_2 : w4.cell? ⟨gb548, 2, none⟩ = some (.int .i64 a0_2) := (blk_cell BK548.out 2).trans rfl
      have hcz11_3 : w4.cell? ⟨gb548, 3, none⟩ = some (.string a0_3) := (blk_cell BK548.out 3).trans rfl
      have hcz11_4 : w4.cell? ⟨gb548, 4, none⟩ = some (.slice A0_4 l0_4.length c0_4) := (blk_cell BK548.out 4).trans rfl
      have hfz11_0 := blk_frozen BK548.out 0
      have hfz11_1 := blk_frozen BK548.out 1
      have hfz11_2 := blk_frozen BK548.out 2
      have hfz11_3 := blk_frozen BK548.out 3
      have hfz11_4 := blk_frozen BK548.out 4
      go_wp2
      go_meet
      case rel => exact ⟨_, (true), rfz, H', ⟨by first | omega | exact Nat.le_refl _⟩, ⟨by (with_reducible repeat (first | refine blk_drewN ?_ _ | refine blk_drew ?_ | refine blk_alloc ?_ _)); exact BK548.out⟩, ⟨hz1 HB.out GE548.out⟩⟩
     ·
      rw [if_neg c10] at H
      have c10b0 : decide (2000 < (a0_3.size : Int)) = false := decide_eq_false c10
      have c10b1 : decide (2000 < a0_3.size) = false := decide_eq_false (by omega)
      clear c10
      have H' := am H
      clear H
      have hcz12_0 : w4.cell? ⟨gb548, 0, none⟩ = some (.int .i64 a0_0) := (blk_cell BK548.out 0).trans rfl
      have hcz12_1 : w4.cell? ⟨gb548, 1, none⟩ = some (.int .i64 a0_1) := (blk_cell BK548.out 1).trans rfl
      have hcz12_2 : w4.cell? ⟨gb548, 2, none⟩ = some (.int .i64 a0_2) := (blk_cell BK548.out 2).trans rfl
      have hcz12_3 : w4.cell? ⟨gb548, 3, none⟩ = some (.string a0_3) := (blk_cell BK548.out 3).trans rfl
      have hcz12_4 : w4.cell? ⟨gb548, 4, none⟩ = some (.slice A0_4 l0_4.length c0_4) := (blk_cell BK548.out 4).trans rfl
      have hfz12_0 := blk_frozen BK548.out 0
      have hfz12_1 := blk_frozen BK548.out 1
      have hfz12_2 := blk_frozen BK548.out 2
      have hfz12_3 := blk_frozen BK548.out 3
      have hfz12_4 := blk_frozen BK548.out 4
      go_wp2
      go_meet
      case rel => exact ⟨_, (decide ((l0_4.length : Int) > 1024)), rfz, H', ⟨by first | omega | exact Nat.le_refl _⟩, ⟨by (with_reducible repeat (first | refine blk_drewN ?_ _ | refine blk_drew ?_ | refine blk_alloc ?_ _)); exact BK548.out⟩, ⟨hz1 HB.out GE548.out⟩⟩
 case rest =>
  clear HC3
  obtain ⟨kq, x29_2, rfl, HA, HJ2, BK548, HB⟩ := hcut
  cases kq with
  | zero => exact absurd HA.out (by simp [examboardref10_fits.j0])
  | succ kj2 =>
   have H := HA.out
   clear HA
   simp only [examboardref10_fits.j0] at H
   by_cases c13 : x29_2 = true
   ·
    subst c13
    have H1 := H
    rw [if_pos rfl] at H1
    clear H
    have H := H1
    clear H1
    obtain rfl := Option.some.inj H
    go_wp2
    go_ret
    exact ⟨ez, hz1 HB.out GE548.out⟩
   ·
    replace c13 := Bool.eq_false_iff.mpr c13
    subst c13
    have H1 := H
    rw [if_neg (show ¬ (false = true) by decide)] at H1
    clear H
    have H := H1
    clear H1
    have HC14 := am H
    clear H
    go_upto_region 3 with (fail)
    go_cut [59] (fun v59 wc => ∃ (kq : Nat) (x59_13 : Bool), v59 = .bool x59_13 ∧ Aside0 (examboardref10_fits.j1 kq a1 x59_13 a0_0 a0_1 a0_2 a0_3 l0_4 = some r) ∧ Aside0 (kq ≤ kj2) ∧ Aside0 (wc.heap[gb548]? = some (.cells #[.int .i64 a0_0, .int .i64 a0_1, .int .i64 a0_2, .string a0_3, (.slice A0_4 l0_4.length c0_4)] 43 (0, 0))) ∧ Aside0 (Below w.heap.size w wc))
    case first =>
     have H := HC14.out
     clear HC14
     by_cases c15 : a0_1 = 1
     ·
      rw [if_pos c15] at H
      have c15b0 : (a0_1 == 1) = true := beq_iff_eq.mpr c15
      have c15b1 : (a0_1 != 1) = false := bne_eq_false_iff_eq.mpr c15
      clear c15
      (first | rw [c15b0] | (simp only [i64_w, i32_w]; rw [c15b0]) | skip)
      by_cases c16 : a0_1 = 2
      ·
       rw [if_pos c16] at H
       have c16b0 : (a0_1 == 2) = true := beq_iff_eq.mpr c16
       have c16b1 : (a0_1 != 2) = false := bne_eq_false_iff_eq.mpr c16
       clear c16
       by_cases c17 : a0_1 = 3
       ·
        rw [if_pos c17] at H
        have c17b0 : (a0_1 == 3) = true := beq_iff_eq.mpr c17
        have c17b1 : (a0_1 != 3) = false := bne_eq_false_iff_eq.mpr c17
        clear c17
        have H' := am H
        clear H
        have hcz18_0 : wc.cell? ⟨gb548, 0, none⟩ = some (.int .i64 a0_0) := (blk_cell BK548.out 0).trans rfl
        have hcz18_1 : wc.cell? ⟨gb548, 1, none⟩ = some (.int .i64 a0_1) := (blk_cell BK548.out 1).trans rfl
        have hcz18_2 : wc.cell? ⟨gb548, 2, none⟩ = some (.int .i64 a0_2) := (blk_cell BK548.out 2).trans rfl
        have hcz18_3 : wc.cell? ⟨gb548, 3, none⟩ = some (.string a0_3) := (blk_cell BK548.out 3).trans rfl
        have hcz18_4 : wc.cell? ⟨gb548, 4, none⟩ = some (.slice A0_4 l0_4.length c0_4) := (blk_cell BK548.out 4).trans rfl
        have hfz18_0 := blk_frozen BK548.out 0
        have hfz18_1 := blk_frozen BK548.out 1
        have hfz18_2 := blk_frozen BK548.out 2
        have hfz18_3 := blk_frozen BK548.out 3
        have hfz18_4 := blk_frozen BK548.out 4
        go_wp2
        go_meet
        case rel => exact ⟨_, (false), rfz, H', ⟨by have := HJ2.out; first | omega | exact Nat.le_refl _⟩, ⟨by (with_reducible repeat (first | refine blk_drewN ?_ _ | refine blk_drew ?_ | refine blk_alloc ?_ _)); exact BK548.out⟩, ⟨hz1 HB.out GE548.out⟩⟩
       ·
        rw [if_neg c17] at H
        have c17b0 : (a0_1 == 3) = false := beq_eq_false_iff_ne.mpr c17
        have c17b1 : (a0_1 != 3) = true := bne_iff_ne.mpr c17
        have H' := am H
        clear H
        have hcz19_0 : wc.cell? ⟨gb548, 0, none⟩ = some (.int .i64 a0_0) := (blk_cell BK548.out 0).trans rfl
        have hcz19_1 : wc.cell? ⟨gb548, 1, none⟩ = some (.int .i64 a0_1) := (blk_cell BK548.out 1).trans rfl
        have hcz19_2 : wc.cell? ⟨gb548, 2, none⟩ = some (.int .i64 a0_2) := (blk_cell BK548.out 2).trans rfl
        have hcz19_3 : wc.cell? ⟨gb548, 3, none⟩ = some (.string a0_3) := (blk_cell BK548.out 3).trans rfl
        have hcz19_4 : wc.cell? ⟨gb548, 4, none⟩ = some (.slice A0_4 l0_4.length c0_4) := (blk_cell BK548.out 4).trans rfl
        have hfz19_0 := blk_frozen BK548.out 0
        have hfz19_1 := blk_frozen BK548.out 1
        have hfz19_2 := blk_frozen BK548.out 2
        have hfz19_3 := blk_frozen BK548.out 3
        have hfz19_4 := blk_frozen BK548.out 4
        go_wp2
        go_meet
        case rel => exact ⟨_, (decide ((l0_4.length : Int) > 0)), rfz, H', ⟨by have := HJ2.out; first | omega | exact Nat.le_refl _⟩, ⟨by (with_reducible repeat (first | refine blk_drewN ?_ _ | refine blk_drew ?_ | refine blk_alloc ?_ _)); exact BK548.out⟩, ⟨hz1 HB.out GE548.out⟩⟩
      ·
       rw [if_neg c16] at H
       have c16b0 : (a0_1 == 2) = false := beq_eq_false_iff_ne.mpr c16
       have c16b1 : (a0_1 != 2) = true := bne_iff_ne.mpr c16
       by_cases c20 : (a0_3.size : Int) > 0
       ·
        rw [if_pos c20] at H
        have c20b0 : decide (0 < (a0_3.size : Int)) = true := decide_eq_true c20
        have c20b1 : decide (0 < a0_3.size) = true := decide_eq_true (by omega)
        clear c20
        have H' := am H
        clear H
        have hcz21_0 : wc.cell? ⟨gb548, 0, none⟩ = some (.int .i64 a0_0) := (blk_cell BK548.out 0).trans rfl
        have hcz21_1 : wc.cell? ⟨gb548, 1, none⟩ = some (.int .i64 a0_1) := (blk_cell BK548.out 1).trans rfl
        have hcz21_2 : wc.cell? ⟨gb548, 2, none⟩ = some (.int .i64 a0_2) := (blk_cell BK548.out 2).trans rfl
        have hcz21_3 : wc.cell? ⟨gb548, 3, none⟩ = some (.string a0_3) := (blk_cell BK548.out 3).trans rfl
        have hcz21_4 : wc.cell? ⟨gb548, 4, none⟩ = some (.slice A0_4 l0_4.length c0_4) := (blk_cell BK548.out 4).trans rfl
        have hfz21_0 := blk_frozen BK548.out 0
        have hfz21_1 := blk_frozen BK548.out 1
        have hfz21_2 := blk_frozen BK548.out 2
        have hfz21_3 := blk_frozen BK548.out 3
        have hfz21_4 := blk_frozen BK548.out 4
        go_wp2
        go_meet
        case rel => exact ⟨_, (true), rfz, H', ⟨by have := HJ2.out; first | omega | exact Nat.le_refl _⟩, ⟨by (with_reducible repeat (first | refine blk_drewN ?_ _ | refine blk_drew ?_ | refine blk_alloc ?_ _)); exact BK548.out⟩, ⟨hz1 HB.out GE548.out⟩⟩
       ·
        rw [if_neg c20] at H
        have c20b0 : decide (0 < (a0_3.size : Int)) = false := decide_eq_false c20
        have c20b1 : decide (0 < a0_3.size) = false := decide_eq_false (by omega)
        clear c20
        by_cases c22 : a0_1 = 3
        ·
         rw [if_pos c22] at H
         have c22b0 : (a0_1 == 3) = true := beq_iff_eq.mpr c22
         have c22b1 : (a0_1 != 3) = false := bne_eq_false_iff_eq.mpr c22
         clear c22
         have H' := am H
         clear H
         have hcz23_0 : wc.cell? ⟨gb548, 0, none⟩ = some (.int .i64 a0_0) := (blk_cell BK548.out 0).trans rfl
         have hcz23_1 : wc.cell? ⟨gb548, 1, none⟩ = some (.int .i64 a0_1) := (blk_cell BK548.out 1).trans rfl
         have hcz23_2 : wc.cell? ⟨gb548, 2, none⟩ = some (.int .i64 a0_2) := (blk_cell BK548.out 2).trans rfl
         have hcz23_3 : wc.cell? ⟨gb548, 3, none⟩ = some (.string a0_3) := (blk_cell BK548.out 3).trans rfl
         have hcz23_4 : wc.cell? ⟨gb548, 4, none⟩ = some (.slice A0_4 l0_4.length c0_4) := (blk_cell BK548.out 4).trans rfl
         have hfz23_0 := blk_frozen BK548.out 0
         have hfz23_1 := blk_frozen BK548.out 1
         have hfz23_2 := blk_frozen BK548.out 2
         have hfz23_3 := blk_frozen BK548.out 3
         have hfz23_4 := blk_frozen BK548.out 4
         go_wp2
         go_meet
         case rel => exact ⟨_, (false), rfz, H', ⟨by have := HJ2.out; first | omega | exact Nat.le_refl _⟩, ⟨by (with_reducible repeat (first | refine blk_drewN ?_ _ | refine blk_drew ?_ | refine blk_alloc ?_ _)); exact BK548.out⟩, ⟨hz1 HB.out GE548.out⟩⟩
        ·
         rw [if_neg c22] at H
         have c22b0 : (a0_1 == 3) = false := beq_eq_false_iff_ne.mpr c22
         have c22b1 : (a0_1 != 3) = true := bne_iff_ne.mpr c22
         have H' := am H
         clear H
         have hcz24_0 : wc.cell? ⟨gb548, 0, none⟩ = some (.int .i64 a0_0) := (blk_cell BK548.out 0).trans rfl
         have hcz24_1 : wc.cell? ⟨gb548, 1, none⟩ = some (.int .i64 a0_1) := (blk_cell BK548.out 1).trans rfl
         have hcz24_2 : wc.cell? ⟨gb548, 2, none⟩ = some (.int .i64 a0_2) := (blk_cell BK548.out 2).trans rfl
         have hcz24_3 : wc.cell? ⟨gb548, 3, none⟩ = some (.string a0_3) := (blk_cell BK548.out 3).trans rfl
         have hcz24_4 : wc.cell? ⟨gb548, 4, none⟩ = some (.slice A0_4 l0_4.length c0_4) := (blk_cell BK548.out 4).trans rfl
         have hfz24_0 := blk_frozen BK548.out 0
         have hfz24_1 := blk_frozen BK548.out 1
         have hfz24_2 := blk_frozen BK548.out 2
         have hfz24_3 := blk_frozen BK548.out 3
         have hfz24_4 := blk_frozen BK548.out 4
         go_wp2
         go_meet
         case rel => exact ⟨_, (decide ((l0_4.length : Int) > 0)), rfz, H', ⟨by have := HJ2.out; first | omega | exact Nat.le_refl _⟩, ⟨by (with_reducible repeat (first | refine blk_drewN ?_ _ | refine blk_drew ?_ | refine blk_alloc ?_ _)); exact BK548.out⟩, ⟨hz1 HB.out GE548.out⟩⟩
     ·
      rw [if_neg c15] at H
      have c15b0 : (a0_1 == 1) = false := beq_eq_false_iff_ne.mpr c15
      have c15b1 : (a0_1 != 1) = true := bne_iff_ne.mpr c15
      (first | rw [c15b0] | (simp only [i64_w, i32_w]; rw [c15b0]) | skip)
      by_cases c25 : a0_2 = 0
      ·
       rw [if_pos c25] at H
       have c25b0 : (a0_2 == 0) = true := beq_iff_eq.mpr c25
       have c25b1 : (a0_2 != 0) = false := bne_eq_false_iff_eq.mpr c25
       clear c25
       by_cases c26 : a0_1 = 2
       ·
        rw [if_pos c26] at H
        have c26b0 : (a0_1 == 2) = true := beq_iff_eq.mpr c26
        have c26b1 : (a0_1 != 2) = false := bne_eq_false_iff_eq.mpr c26
        clear c26
        by_cases c27 : a0_1 = 3
        ·
         rw [if_pos c27] at H
         have c27b0 : (a0_1 == 3) = true := beq_iff_eq.mpr c27
         have c27b1 : (a0_1 != 3) = false := bne_eq_false_iff_eq.mpr c27
         clear c27
         have H' := am H
         clear H
         have hcz28_0 : wc.cell? ⟨gb548, 0, none⟩ = some (.int .i64 a0_0) := (blk_cell BK548.out 0).trans rfl
         have hcz28_1 : wc.cell? ⟨gb548, 1, none⟩ = some (.int .i64 a0_1) := (blk_cell BK548.out 1).trans rfl
         have hcz28_2 : wc.cell? ⟨gb548, 2, none⟩ = some (.int .i64 a0_2) := (blk_cell BK548.out 2).trans rfl
         have hcz28_3 : wc.cell? ⟨gb548, 3, none⟩ = some (.string a0_3) := (blk_cell BK548.out 3).trans rfl
         have hcz28_4 : wc.cell? ⟨gb548, 4, none⟩ = some (.slice A0_4 l0_4.length c0_4) := (blk_cell BK548.out 4).trans rfl
         have hfz28_0 := blk_frozen BK548.out 0
         have hfz28_1 := blk_frozen BK548.out 1
         have hfz28_2 := blk_frozen BK548.out 2
         have hfz28_3 := blk_frozen BK548.out 3
         have hfz28_4 := blk_frozen BK548.out 4
         go_wp2
         go_meet
         case rel => exact ⟨_, (false), rfz, H', ⟨by have := HJ2.out; first | omega | exact Nat.le_refl _⟩, ⟨by (with_reducible repeat (first | refine blk_drewN ?_ _ | refine blk_drew ?_ | refine blk_alloc ?_ _)); exact BK548.out⟩, ⟨hz1 HB.out GE548.out⟩⟩
        ·
         rw [if_neg c27] at H
         have c27b0 : (a0_1 == 3) = false := beq_eq_false_iff_ne.mpr c27
         have c27b1 : (a0_1 != 3) = true := bne_iff_ne.mpr c27
         have H' := am H
         clear H
         have hcz29_0 : wc.cell? ⟨gb548, 0, none⟩ = some (.int .i64 a0_0) := (blk_cell BK548.out 0).trans rfl
         have hcz29_1 : wc.cell? ⟨gb548, 1, none⟩ = some (.int .i64 a0_1) := (blk_cell BK548.out 1).trans rfl
         have hcz29_2 : wc.cell? ⟨gb548, 2, none⟩ = some (.int .i64 a0_2) := (blk_cell BK548.out 2).trans rfl
         have hcz29_3 : wc.cell? ⟨gb548, 3, none⟩ = some (.string a0_3) := (blk_cell BK548.out 3).trans rfl
         have hcz29_4 : wc.cell? ⟨gb548, 4, none⟩ = some (.slice A0_4 l0_4.length c0_4) := (blk_cell BK548.out 4).trans rfl
         have hfz29_0 := blk_frozen BK548.out 0
         have hfz29_1 := blk_frozen BK548.out 1
         have hfz29_2 := blk_frozen BK548.out 2
         have hfz29_3 := blk_frozen BK548.out 3
         have hfz29_4 := blk_frozen BK548.out 4
         go_wp2
         go_meet
         case rel => exact ⟨_, (decide ((l0_4.length : Int) > 0)), rfz, H', ⟨by have := HJ2.out; first | omega | exact Nat.le_refl _⟩, ⟨by (with_reducible repeat (first | refine blk_drewN ?_ _ | refine blk_drew ?_ | refine blk_alloc ?_ _)); exact BK548.out⟩, ⟨hz1 HB.out GE548.out⟩⟩
       ·
        rw [if_neg c26] at H
        have c26b0 : (a0_1 == 2) = false := beq_eq_false_iff_ne.mpr c26
        have c26b1 : (a0_1 != 2) = true := bne_iff_ne.mpr c26
        by_cases c30 : (a0_3.size : Int) > 0
        ·
         rw [if_pos c30] at H
         have c30b0 : decide (0 < (a0_3.size : Int)) = true := decide_eq_true c30
         have c30b1 : decide (0 < a0_3.size) = true := decide_eq_true (by omega)
         clear c30
         have H' := am H
         clear H
         have hcz31_0 : wc.cell? ⟨gb548, 0, none⟩ = some (.int .i64 a0_0) := (blk_cell BK548.out 0).trans rfl
         have hcz31_1 : wc.cell? ⟨gb548, 1, none⟩ = some (.int .i64 a0_1) := (blk_cell BK548.out 1).trans rfl
         have hcz31_2 : wc.cell? ⟨gb548, 2, none⟩ = some (.int .i64 a0_2) := (blk_cell BK548.out 2).trans rfl
         have hcz31_3 : wc.cell? ⟨gb548, 3, none⟩ = some (.string a0_3) := (blk_cell BK548.out 3).trans rfl
         have hcz31_4 : wc.cell? ⟨gb548, 4, none⟩ = some (.slice A0_4 l0_4.length c0_4) := (blk_cell BK548.out 4).trans rfl
         have hfz31_0 := blk_frozen BK548.out 0
         have hfz31_1 := blk_frozen BK548.out 1
         have hfz31_2 := blk_frozen BK548.out 2
         have hfz31_3 := blk_frozen BK548.out 3
         have hfz31_4 := blk_frozen BK548.out 4
         go_wp2
         go_meet
         case rel => exact ⟨_, (true), rfz, H', ⟨by have := HJ2.out; first | omega | exact Nat.le_refl _⟩, ⟨by (with_reducible repeat (first | refine blk_drewN ?_ _ | refine blk_drew ?_ | refine blk_alloc ?_ _)); exact BK548.out⟩, ⟨hz1 HB.out GE548.out⟩⟩
        ·
         rw [if_neg c30] at H
         have c30b0 : decide (0 < (a0_3.size : Int)) = false := decide_eq_false c30
         have c30b1 : decide (0 < a0_3.size) = false := decide_eq_false (by omega)
         clear c30
         by_cases c32 : a0_1 = 3
         ·
          rw [if_pos c32] at H
          have c32b0 : (a0_1 == 3) = true := beq_iff_eq.mpr c32
          have c32b1 : (a0_1 != 3) = false := bne_eq_false_iff_eq.mpr c32
          clear c32
          have H' := am H
          clear H
          have hcz33_0 : wc.cell? ⟨gb548, 0, none⟩ = some (.int .i64 a0_0) := (blk_cell BK548.out 0).trans rfl
          have hcz33_1 : wc.cell? ⟨gb548, 1, none⟩ = some (.int .i64 a0_1) := (blk_cell BK548.out 1).trans rfl
          have hcz33_2 : wc.cell? ⟨gb548, 2, none⟩ = some (.int .i64 a0_2) := (blk_cell BK548.out 2).trans rfl
          have hcz33_3 : wc.cell? ⟨gb548, 3, none⟩ = some (.string a0_3) := (blk_cell BK548.out 3).trans rfl
          have hcz33_4 : wc.cell? ⟨gb548, 4, none⟩ = some (.slice A0_4 l0_4.length c0_4) := (blk_cell BK548.out 4).trans rfl
          have hfz33_0 := blk_frozen BK548.out 0
          have hfz33_1 := blk_frozen BK548.out 1
          have hfz33_2 := blk_frozen BK548.out 2
          have hfz33_3 := blk_frozen BK548.out 3
          have hfz33_4 := blk_frozen BK548.out 4
          go_wp2
          go_meet
          case rel => exact ⟨_, (false), rfz, H', ⟨by have := HJ2.out; first | omega | exact Nat.le_refl _⟩, ⟨by (with_reducible repeat (first | refine blk_drewN ?_ _ | refine blk_drew ?_ | refine blk_alloc ?_ _)); exact BK548.out⟩, ⟨hz1 HB.out GE548.out⟩⟩
         ·
          rw [if_neg c32] at H
          have c32b0 : (a0_1 == 3) = false := beq_eq_false_iff_ne.mpr c32
          have c32b1 : (a0_1 != 3) = true := bne_iff_ne.mpr c32
          have H' := am H
          clear H
          have hcz34_0 : wc.cell? ⟨gb548, 0, none⟩ = some (.int .i64 a0_0) := (blk_cell BK548.out 0).trans rfl
          have hcz34_1 : wc.cell? ⟨gb548, 1, none⟩ = some (.int .i64 a0_1) := (blk_cell BK548.out 1).trans rfl
          have hcz34_2 : wc.cell? ⟨gb548, 2, none⟩ = some (.int .i64 a0_2) := (blk_cell BK548.out 2).trans rfl
          have hcz34_3 : wc.cell? ⟨gb548, 3, none⟩ = some (.string a0_3) := (blk_cell BK548.out 3).trans rfl
          have hcz34_4 : wc.cell? ⟨gb548, 4, none⟩ = some (.slice A0_4 l0_4.length c0_4) := (blk_cell BK548.out 4).trans rfl
          have hfz34_0 := blk_frozen BK548.out 0
          have hfz34_1 := blk_frozen BK548.out 1
          have hfz34_2 := blk_frozen BK548.out 2
          have hfz34_3 := blk_frozen BK548.out 3
          have hfz34_4 := blk_frozen BK548.out 4
          go_wp2
          go_meet
          case rel => exact ⟨_, (decide ((l0_4.length : Int) > 0)), rfz, H', ⟨by have := HJ2.out; first | omega | exact Nat.le_refl _⟩, ⟨by (with_reducible repeat (first | refine blk_drewN ?_ _ | refine blk_drew ?_ | refine blk_alloc ?_ _)); exact BK548.out⟩, ⟨hz1 HB.out GE548.out⟩⟩
      ·
       rw [if_neg c25] at H
       have c25b0 : (a0_2 == 0) = false := beq_eq_false_iff_ne.mpr c25
       have c25b1 : (a0_2 != 0) = true := bne_iff_ne.mpr c25
       have H' := am H
       clear H
       have hcz35_0 : wc.cell? ⟨gb548, 0, none⟩ = some (.int .i64 a0_0) := (blk_cell BK548.out 0).trans rfl
       have hcz35_1 : wc.cell? ⟨gb548, 1, none⟩ = some (.int .i64 a0_1) := (blk_cell BK548.out 1).trans rfl
       have hcz35_2 : wc.cell? ⟨gb548, 2, none⟩ = some (.int .i64 a0_2) := (blk_cell BK548.out 2).trans rfl
       have hcz35_3 : wc.cell? ⟨gb548, 3, none⟩ = some (.string a0_3) := (blk_cell BK548.out 3).trans rfl
       have hcz35_4 : wc.cell? ⟨gb548, 4, none⟩ = some (.slice A0_4 l0_4.length c0_4) := (blk_cell BK548.out 4).trans rfl
       have hfz35_0 := blk_frozen BK548.out 0
       have hfz35_1 := blk_frozen BK548.out 1
       have hfz35_2 := blk_frozen BK548.out 2
       have hfz35_3 := blk_frozen BK548.out 3
       have hfz35_4 := blk_frozen BK548.out 4
       go_wp2
       go_meet
       case rel => exact ⟨_, (true), rfz, H', ⟨by have := HJ2.out; first | omega | exact Nat.le_refl _⟩, ⟨by (with_reducible repeat (first | refine blk_drewN ?_ _ | refine blk_drew ?_ | refine blk_alloc ?_ _)); exact BK548.out⟩, ⟨hz1 HB.out GE548.out⟩⟩
    case rest =>
     clear HC14
     obtain ⟨kq, x59_13, rfl, HA, HJ13, BK548, HB⟩ := hcut
     cases kq with
     | zero => exact absurd HA.out (by simp [examboardref10_fits.j1])
     | succ kj13 =>
      have H := HA.out
      clear HA
      simp only [examboardref10_fits.j1] at H
      by_cases c36 : x59_13 = true
      ·
       subst c36
       have H1 := H
       rw [if_pos rfl] at H1
       clear H
       have H := H1
       clear H1
       obtain rfl := Option.some.inj H
       go_wp2
       go_ret
       exact ⟨ez, hz1 HB.out GE548.out⟩
      ·
       replace c36 := Bool.eq_false_iff.mpr c36
       subst c36
       have H1 := H
       rw [if_neg (show ¬ (false = true) by decide)] at H1
       clear H
       have H := H1
       clear H1
       have HC37 := am H
       clear H
       go_upto_region 5 with (fail)
       go_cut [67] (fun v67 wc => ∃ (kq : Nat) (x67_36 : Bool), v67 = .bool x67_36 ∧ Aside0 (examboardref10_fits.j2 kq a1 x67_36 a0_0 a0_1 a0_2 a0_3 l0_4 = some r) ∧ Aside0 (kq ≤ kj13) ∧ Aside0 (wc.heap[gb548]? = some (.cells #[.int .i64 a0_0, .int .i64 a0_1, .int .i64 a0_2, .string a0_3, (.slice A0_4 l0_4.length c0_4)] 43 (0, 0))) ∧ Aside0 (Below w.heap.size w wc))
       case first =>
        have H := HC37.out
        clear HC37
        by_cases c38 : a0_1 < 1
        ·
         rw [if_pos c38] at H
         have c38b0 : decide (a0_1 < 1) = true := decide_eq_true c38
         clear c38
         (first | rw [c38b0] | (simp only [i64_w, i32_w]; rw [c38b0]) | skip)
         have H' := am H
         clear H
         have hcz39_0 : wc.cell? ⟨gb548, 0, none⟩ = some (.int .i64 a0_0) := (blk_cell BK548.out 0).trans rfl
         have hcz39_1 : wc.cell? ⟨gb548, 1, none⟩ = some (.int .i64 a0_1) := (blk_cell BK548.out 1).trans rfl
         have hcz39_2 : wc.cell? ⟨gb548, 2, none⟩ = some (.int .i64 a0_2) := (blk_cell BK548.out 2).trans rfl
         have hcz39_3 : wc.cell? ⟨gb548, 3, none⟩ = some (.string a0_3) := (blk_cell BK548.out 3).trans rfl
         have hcz39_4 : wc.cell? ⟨gb548, 4, none⟩ = some (.slice A0_4 l0_4.length c0_4) := (blk_cell BK548.out 4).trans rfl
         have hfz39_0 := blk_frozen BK548.out 0
         have hfz39_1 := blk_frozen BK548.out 1
         have hfz39_2 := blk_frozen BK548.out 2
         have hfz39_3 := blk_frozen BK548.out 3
         have hfz39_4 := blk_frozen BK548.out 4
         go_wp2
         go_meet
         case rel => exact ⟨_, (true), rfz, H', ⟨by have := HJ2.out; have := HJ13.out; first | omega | exact Nat.le_refl _⟩, ⟨by (with_reducible repeat (first | refine blk_drewN ?_ _ | refine blk_drew ?_ | refine blk_alloc ?_ _)); exact BK548.out⟩, ⟨hz1 HB.out GE548.out⟩⟩
        ·
         rw [if_neg c38] at H
         have c38b0 : decide (a0_1 < 1) = false := decide_eq_false c38
         clear c38
         (first | rw [c38b0] | (simp only [i64_w, i32_w]; rw [c38b0]) | skip)
         have H' := am H
         clear H
         have hcz40_0 : wc.cell? ⟨gb548, 0, none⟩ = some (.int .i64 a0_0) := (blk_cell BK548.out 0).trans rfl
         have hcz40_1 : wc.cell? ⟨gb548, 1, none⟩ = some (.int .i64 a0_1) := (blk_cell BK548.out 1).trans rfl
         have hcz40_2 : wc.cell? ⟨gb548, 2, none⟩ = some (.int .i64 a0_2) := (blk_cell BK548.out 2).trans rfl
         have hcz40_3 : wc.cell? ⟨gb548, 3, none⟩ = some (.string a0_3) := (blk_cell BK548.out 3).trans rfl
         have hcz40_4 : wc.cell? ⟨gb548, 4, none⟩ = some (.slice A0_4 l0_4.length c0_4) := (blk_cell BK548.out 4).trans rfl
         have hfz40_0 := blk_frozen BK548.out 0
         have hfz40_1 := blk_frozen BK548.out 1
         have hfz40_2 := blk_frozen BK548.out 2
         have hfz40_3 := blk_frozen BK548.out 3
         have hfz40_4 := blk_frozen BK548.out 4
         go_wp2
         go_meet
         case rel => exact ⟨_, (decide (a0_1 > 3)), rfz, H', ⟨by have := HJ2.out; have := HJ13.out; first | omega | exact Nat.le_refl _⟩, ⟨by (with_reducible repeat (first | refine blk_drewN ?_ _ | refine blk_drew ?_ | refine blk_alloc ?_ _)); exact BK548.out⟩, ⟨hz1 HB.out GE548.out⟩⟩
       case rest =>
        clear HC37
        obtain ⟨kq, x67_36, rfl, HA, HJ36, BK548, HB⟩ := hcut
        cases kq with
        | zero => exact absurd HA.out (by simp [examboardref10_fits.j2])
        | succ kj36 =>
         have H := HA.out
         clear HA
         simp only [examboardref10_fits.j2] at H
         by_cases c41 : x67_36 = true
         ·
          subst c41
          have H1 := H
          rw [if_pos rfl] at H1
          clear H
          have H := H1
          clear H1
          obtain rfl := Option.some.inj H
          go_wp2
          go_ret
          exact ⟨ez, hz1 HB.out GE548.out⟩
         ·
          replace c41 := Bool.eq_false_iff.mpr c41
          subst c41
          have H1 := H
          rw [if_neg (show ¬ (false = true) by decide)] at H1
          clear H
          have H := H1
          clear H1
          have H' := am H
          clear H
          go_wp2
          go_loopg [5] kj36 (fun kq v5 w' => ∃ (x5_4 : Int), v5 = .int .i64 x5_4 ∧ Aside0 (examboardref10_fits.l0 kq a1 x5_4 a0_0 a0_1 a0_2 a0_3 l0_4 = some r) ∧ Aside0 (kq ≤ kj36) ∧ Aside0 (w'.heap[gb548]? = some (.cells #[.int .i64 a0_0, .int .i64 a0_1, .int .i64 a0_2, .string a0_3, (.slice A0_4 l0_4.length c0_4)] 43 (0, 0))) ∧ Aside0 (Below w.heap.size w w'))
          case atStart => exact ⟨(0), rfz, H', ⟨Nat.le_refl _⟩, ⟨by (with_reducible repeat (first | refine blk_drewN ?_ _ | refine blk_drew ?_ | refine blk_alloc ?_ _)); exact BK548.out⟩, ⟨hz1 HB.out GE548.out⟩⟩
          case round =>
           clear H'
           obtain ⟨x5_4, rfl, HA, HK4, BK548, HB⟩ := hrel
           cases gk with
           | zero => exact absurd HA.out (by simp [examboardref10_fits.l0])
           | succ k4 =>
            have H := HA.out
            clear HA
            simp only [examboardref10_fits.l0] at H
            by_cases c42 : x5_4 < (l0_4.length : Int)
            ·
             rw [if_pos c42] at H
             have c42b0 : decide (x5_4 < (l0_4.length : Int)) = true := decide_eq_true c42
             clear c42
             replace H := it_ H
             obtain ⟨c43, H⟩ := H
             have c43b0 : decide (0 ≤ x5_4) = true := decide_eq_true c43
             clear c43
             replace H := Option.bind_eq_some_iff.mp H
             obtain ⟨t550, A440, H⟩ := H
             try dsimp only at H
             have A44 := am A440
             clear A440
             by_cases c45 : t550 = true
             ·
              subst c45
              have H1 := H
              rw [if_pos rfl] at H1
              clear H
              have H := H1
              clear H1
              have H' := am H
              clear H
              have hcz46_0 : wr.cell? ⟨gb548, 0, none⟩ = some (.int .i64 a0_0) := (blk_cell BK548.out 0).trans rfl
              have hcz46_1 : wr.cell? ⟨gb548, 1, none⟩ = some (.int .i64 a0_1) := (blk_cell BK548.out 1).trans rfl
              have hcz46_2 : wr.cell? ⟨gb548, 2, none⟩ = some (.int .i64 a0_2) := (blk_cell BK548.out 2).trans rfl
              have hcz46_3 : wr.cell? ⟨gb548, 3, none⟩ = some (.string a0_3) := (blk_cell BK548.out 3).trans rfl
              have hcz46_4 : wr.cell? ⟨gb548, 4, none⟩ = some (.slice A0_4 l0_4.length c0_4) := (blk_cell BK548.out 4).trans rfl
              have hfz46_0 := blk_frozen BK548.out 0
              have hfz46_1 := blk_frozen BK548.out 1
              have hfz46_2 := blk_frozen BK548.out 2
              have hfz46_3 := blk_frozen BK548.out 3
              have hfz46_4 := blk_frozen BK548.out 4
              have p549 : 0 ≤ (x5_4 : Int) := of_decide_eq_true az
              have q549 : x5_4 < (l0_4.length : Int) := of_decide_eq_true az
              obtain ⟨ad549, A549_4, c549_4, e549, hx549_0, hx549_1, hx549_2, hx549_3, hx549_4, hl549_4, hi549_4⟩ := at_T43 HR0_4.out x5_4 p549 q549
              cases e549
              replace hx549_0 := (HB.out.cell (World.block_lt_of_cell? w _ hx549_0)).trans hx549_0
              replace hx549_1 := (HB.out.cell (World.block_lt_of_cell? w _ hx549_1)).trans hx549_1
              replace hx549_2 := (HB.out.cell (World.block_lt_of_cell? w _ hx549_2)).trans hx549_2
              replace hx549_3 := (HB.out.cell (World.block_lt_of_cell? w _ hx549_3)).trans hx549_3
              replace hx549_4 := (HB.out.cell (World.block_lt_of_cell? w _ hx549_4)).trans hx549_4
              have HR549_4 := am hi549_4
              have HC549_4 := am hl549_4
              clear hi549_4 hl549_4
              replace p549 := eq_true p549
              replace q549 := eq_true q549
              go_wp2_with (first | ((with_reducible refine gate_callee (f := 49) rfl ?_); refine goesL_ (some 82) rfl rfl Tryd.func49 (by kernel_rfl) rfl #[.agg #[.int .i64 ((rd_T43 l0_4 x5_4).f0), .int .i64 ((rd_T43 l0_4 x5_4).f1), .int .i64 ((rd_T43 l0_4 x5_4).f2), .string ((rd_T43 l0_4 x5_4).f3), .slice A549_4 ((rd_T43 l0_4 x5_4).f4).length c549_4], .int .i64 (wrap64 (a1 + 1))] rfl lz ?_; (with_reducible refine (ih k4 (by have := HJ2.out; have := HJ13.out; have := HJ36.out; have := HK4.out; omega) ((rd_T43 l0_4 x5_4).f0) ((rd_T43 l0_4 x5_4).f1) ((rd_T43 l0_4 x5_4).f2) ((rd_T43 l0_4 x5_4).f3) _ _ ((rd_T43 l0_4 x5_4).f4) (wrap64 (a1 + 1)) true _ ?side1 ?side2 A44.out).mono ?_); (case side1 => exact cz (Kd.C_below HR549_4.out HB.out)); (case side2 => exact HC549_4.out); rintro e w47 ⟨rfl, hb⟩; refine ⟨_, rfl, ?_⟩; replace BK548 := am (blk_below (bz BK548.out) hb); replace HB := am (below_step (hz1 HB.out GE548.out) hb)))
              go_roundg k4
              case measure => have := HJ2.out; have := HJ13.out; have := HJ36.out; have := HK4.out; omega
              case rel => exact ⟨(wrap64 (x5_4 + 1)), rfz, H', ⟨by have := HJ2.out; have := HJ13.out; have := HJ36.out; have := HK4.out; omega⟩, ⟨by (with_reducible repeat (first | refine blk_drewN ?_ _ | refine blk_drew ?_ | refine blk_alloc ?_ _)); exact BK548.out⟩, ⟨hz1 HB.out GE548.out⟩⟩
             ·
              replace c45 := Bool.eq_false_iff.mpr c45
              subst c45
              have H1 := H
              rw [if_neg (show ¬ (false = true) by decide)] at H1
              clear H
              have H := H1
              clear H1
              obtain rfl := Option.some.inj H
              have hcz48_0 : wr.cell? ⟨gb548, 0, none⟩ = some (.int .i64 a0_0) := (blk_cell BK548.out 0).trans rfl
              have hcz48_1 : wr.cell? ⟨gb548, 1, none⟩ = some (.int .i64 a0_1) := (blk_cell BK548.out 1).trans rfl
              have hcz48_2 : wr.cell? ⟨gb548, 2, none⟩ = some (.int .i64 a0_2) := (blk_cell BK548.out 2).trans rfl
              have hcz48_3 : wr.cell? ⟨gb548, 3, none⟩ = some (.string a0_3) := (blk_cell BK548.out 3).trans rfl
              have hcz48_4 : wr.cell? ⟨gb548, 4, none⟩ = some (.slice A0_4 l0_4.length c0_4) := (blk_cell BK548.out 4).trans rfl
              have hfz48_0 := blk_frozen BK548.out 0
              have hfz48_1 := blk_frozen BK548.out 1
              have hfz48_2 := blk_frozen BK548.out 2
              have hfz48_3 := blk_frozen BK548.out 3
              have hfz48_4 := blk_frozen BK548.out 4
              have p549 : 0 ≤ (x5_4 : Int) := of_decide_eq_true az
              have q549 : x5_4 < (l0_4.length : Int) := of_decide_eq_true az
              obtain ⟨ad549, A549_4, c549_4, e549, hx549_0, hx549_1, hx549_2, hx549_3, hx549_4, hl549_4, hi549_4⟩ := at_T43 HR0_4.out x5_4 p549 q549
              cases e549
              replace hx549_0 := (HB.out.cell (World.block_lt_of_cell? w _ hx549_0)).trans hx549_0
              replace hx549_1 := (HB.out.cell (World.block_lt_of_cell? w _ hx549_1)).trans hx549_1
              replace hx549_2 := (HB.out.cell (World.block_lt_of_cell? w _ hx549_2)).trans hx549_2
              replace hx549_3 := (HB.out.cell (World.block_lt_of_cell? w _ hx549_3)).trans hx549_3
              replace hx549_4 := (HB.out.cell (World.block_lt_of_cell? w _ hx549_4)).trans hx549_4
              have HR549_4 := am hi549_4
              have HC549_4 := am hl549_4
              clear hi549_4 hl549_4
              replace p549 := eq_true p549
              replace q549 := eq_true q549
              go_wp2_with (first | ((with_reducible refine gate_callee (f := 49) rfl ?_); refine goesL_ (some 82) rfl rfl Tryd.func49 (by kernel_rfl) rfl #[.agg #[.int .i64 ((rd_T43 l0_4 x5_4).f0), .int .i64 ((rd_T43 l0_4 x5_4).f1), .int .i64 ((rd_T43 l0_4 x5_4).f2), .string ((rd_T43 l0_4 x5_4).f3), .slice A549_4 ((rd_T43 l0_4 x5_4).f4).length c549_4], .int .i64 (wrap64 (a1 + 1))] rfl lz ?_; (with_reducible refine (ih k4 (by have := HJ2.out; have := HJ13.out; have := HJ36.out; have := HK4.out; omega) ((rd_T43 l0_4 x5_4).f0) ((rd_T43 l0_4 x5_4).f1) ((rd_T43 l0_4 x5_4).f2) ((rd_T43 l0_4 x5_4).f3) _ _ ((rd_T43 l0_4 x5_4).f4) (wrap64 (a1 + 1)) false _ ?side1 ?side2 A44.out).mono ?_); (case side1 => exact cz (Kd.C_below HR549_4.out HB.out)); (case side2 => exact HC549_4.out); rintro e w49 ⟨rfl, hb⟩; refine ⟨_, rfl, ?_⟩; replace BK548 := am (blk_below (bz BK548.out) hb); replace HB := am (below_step (hz1 HB.out GE548.out) hb)))
              go_ret
              exact ⟨ez, hz1 HB.out GE548.out⟩
            ·
             rw [if_neg c42] at H
             have c42b0 : decide (x5_4 < (l0_4.length : Int)) = false := decide_eq_false c42
             clear c42
             obtain rfl := Option.some.inj H
             have hcz50_0 : wr.cell? ⟨gb548, 0, none⟩ = some (.int .i64 a0_0) := (blk_cell BK548.out 0).trans rfl
             have hcz50_1 : wr.cell? ⟨gb548, 1, none⟩ = some (.int .i64 a0_1) := (blk_cell BK548.out 1).trans rfl
             have hcz50_2 : wr.cell? ⟨gb548, 2, none⟩ = some (.int .i64 a0_2) := (blk_cell BK548.out 2).trans rfl
             have hcz50_3 : wr.cell? ⟨gb548, 3, none⟩ = some (.string a0_3) := (blk_cell BK548.out 3).trans rfl
             have hcz50_4 : wr.cell? ⟨gb548, 4, none⟩ = some (.slice A0_4 l0_4.length c0_4) := (blk_cell BK548.out 4).trans rfl
             have hfz50_0 := blk_frozen BK548.out 0
             have hfz50_1 := blk_frozen BK548.out 1
             have hfz50_2 := blk_frozen BK548.out 2
             have hfz50_3 := blk_frozen BK548.out 3
             have hfz50_4 := blk_frozen BK548.out 4
             go_wp2
             go_ret
             exact ⟨ez, hz1 HB.out GE548.out⟩

/-! ### examboardref10_varint: function 64 -/
def examboardref10_varint.l0 : Nat → List Int → Int → Option (List Int)
 | 0, _, _ => none
 | k + 1, x0, x1 => if x1 ≥ 128 then (if x0.length < 140737488355328 then (examboardref10_varint.l0 k (x0 ++ [(IntKind.u64.wrap ((Int.tmod x1 128) + 128)) % 256]) (IntKind.u64.wrap (Int.tdiv x1 128))) else (none)) else (if x0.length < 140737488355328 then (some (x0 ++ [(x1) % 256])) else (none))
def examboardref10_varint.f (k : Nat) (l0 : List Int) (a1 : Int) : Option (List Int) := examboardref10_varint.l0 k l0 a1
theorem examboardref10_varint.mono_l : ∀ k, (∀ y0 y1, LeO (examboardref10_varint.l0 k y0 y1) (examboardref10_varint.l0 (k + 1) y0 y1))
 | 0 => fun _ _ r h => by simp [examboardref10_varint.l0] at h
 | k + 1 => by
  have ih0 := examboardref10_varint.mono_l k
  ·
   intro y0 y1
   unfold examboardref10_varint.l0
   repeat' first
   | (with_reducible exact ih0 _ _)
   | (with_reducible exact LeO.refl _)
   | (with_reducible exact LeO.none _)
   | (with_reducible refine LeO.ite ?_ ?_)
   | (with_reducible refine LeO.bind ?_ (fun _ => ?_))
   | exact ih0 _ _
   | exact LeO.none _
   | refine LeO.ite ?_ ?_
   | refine LeO.bind ?_ (fun _ => ?_)
theorem examboardref10_varint.mono : ∀ a0 a1 k, LeO (examboardref10_varint.f k a0 a1) (examboardref10_varint.f (k + 1) a0 a1) := by
 intro a0 a1 k
 have ih0 := examboardref10_varint.mono_l k
 unfold examboardref10_varint.f
 repeat' first
   | (with_reducible exact ih0 _ _)
   | (with_reducible exact LeO.refl _)
   | (with_reducible exact LeO.none _)
   | (with_reducible refine LeO.ite ?_ ?_)
   | (with_reducible refine LeO.bind ?_ (fun _ => ?_))
   | exact ih0 _ _
   | exact LeO.none _
   | refine LeO.ite ?_ ?_
   | refine LeO.bind ?_ (fun _ => ?_)
set_option maxHeartbeats 8000000 in
set_option maxRecDepth 100000 in
theorem examboardref10_varint.calls (k : Nat) (P0_ : Nat → Prop) (u9000_ : Value) (l0 : List Int) (a1 : Int) (r : List Int) (w0 w : World) (hB : Below w0.heap.size w0 w) (ho0 : Kd.R (Kd.int .u8) 5 w w0.heap.size P0_ u9000_ l0) (h : examboardref10_varint.f k l0 a1 = some r) :
  Calls Tryd.prog 64 #[u9000_, .int .u64 a1] w fun e w' => ∃ v0_ : Value, e = .returned (v0_) ∧ Kd.R (Kd.int .u8) 5 w' w0.heap.size (fun k_ => (P0_ k_ ∨ w.heap.size ≤ k_)) v0_ r ∧ Below w0.heap.size w0 w' ∧ Kept w w' (fun k_ => P0_ k_) := by
 have HO0 := am (show Kd.R (Kd.int .u8) 5 w w0.heap.size (fun k_ => (P0_ k_ ∨ w.heap.size ≤ k_)) u9000_ l0 from Kd.R_mono ho0 (fun k_ hk => (.inl hk)))
 have HK := am (Kept.refl w (fun k_ => P0_ k_))
 have HW0 := am hB.size
 have HB := am hB
 clear hB
 have H : (examboardref10_varint.l0 k l0 a1) = some r := h
 clear h
 have H' := am H
 clear H
 go_enter Tryd.func64, Tryd.ntmps64
 go_wp2
 go_loopg [0, 1] k (fun kq v0 v1 w' => ∃ (x0_1 : List Int) (x1_1 : Int), v1 = .int .u64 x1_1 ∧ Aside0 (examboardref10_varint.l0 kq x0_1 x1_1 = some r) ∧ Aside0 (kq ≤ k) ∧ Aside0 (Kd.R (Kd.int .u8) 5 w' w0.heap.size (fun k_ => (P0_ k_ ∨ w.heap.size ≤ k_)) v0 x0_1) ∧ Aside0 (Kept w w' (fun k_ => P0_ k_)) ∧ Aside0 (Below w0.heap.size w0 w'))
 case atStart => exact ⟨(l0), (a1), rfz, H', ⟨Nat.le_refl _⟩, ⟨rz HO0.out⟩, ⟨by repeat (first | (with_reducible first | exact HK.out | apply Kept.alloc | apply Kept.drewN | apply Kept.drew) | exact HK.out)⟩, ⟨hz HB.out⟩⟩
 case round =>
  clear H'
  obtain ⟨x0_1, x1_1, rfl, HA, HK1, HO_0, HK, HB⟩ := hrel
  cases gk with
  | zero => exact absurd HA.out (by simp [examboardref10_varint.l0])
  | succ k1 =>
   have H := HA.out
   clear HA
   simp only [examboardref10_varint.l0] at H
   by_cases c3 : x1_1 ≥ 128
   ·
    rw [if_pos c3] at H
    have c3b0 : decide (128 ≤ x1_1) = true := decide_eq_true c3
    clear c3
    replace H := it_ H
    obtain ⟨c4, H⟩ := H
    have LMc4 := am c4
    clear c4
    obtain ⟨y551, hy551⟩ : ∃ y_ : List Int, y_ = (x0_1 ++ [(IntKind.u64.wrap ((Int.tmod x1_1 128) + 128)) % 256]) := ⟨_, rfl⟩
    replace H : (examboardref10_varint.l0 k1 y551 (IntKind.u64.wrap (Int.tdiv x1_1 128))) = some r := by first | (rw [hy551]; with_reducible exact H) | (have H2_ := (Option.bind_some _ _).symm.trans H; rw [hy551]; with_reducible exact H2_) | (have H2_ := (Option.bind_some _ _).symm.trans H; with_reducible exact H2_) | with_reducible exact H | (rw [hy551]; exact H) | exact H
    have Ny551 := am hy551
    clear hy551
    have H' := am H
    clear H
    go_wp2_with (first | ((with_reducible refine gate_builtin (b := .append) (xs := #[.tmp 7, .tmp 12]) rfl ?_); at_builtin; refine Kd.R_append (Kd.int .u8) (w0 := w0) w0.heap.size rfl (.tmp 7) (.tmp 12) 24 5 (.int .u8 0) 1 rfl Tryd.underlying24 info5 rfl (by decide) (by omega) u0 x0_1 ((IntKind.u64.wrap ((Int.tmod x1_1 128) + 128)) % 256) [.int .u8 ((IntKind.u64.wrap ((Int.tmod x1_1 128) + 128)) % 256)] (fun k_ => (P0_ k_ ∨ w.heap.size ≤ k_)) (fun _ => False) rfl rfl ?aP (fun _ hk => hk.elim) ?aF ?aO ?aB ?aS ?aL ?_; (case aP => exact rfl); (case aB => exact (hz HB.out)); (case aF => exact (fun k_ hk => (.inr (Nat.le_trans (by first | exact HK.out.1 | exact (show Kept w _ (fun k_ => P0_ k_) from by repeat (first | (with_reducible first | exact HK.out | apply Kept.alloc | apply Kept.drewN | apply Kept.drew) | exact HK.out)).1) hk)))); (case aO => exact (rz HO_0.out)); (case aS => exact (below_size (hz HB.out))); (case aL => have := LMc4.out; omega); intro v552 w5 ho hb hg hat; rw [← Ny551.out] at ho; replace HB := am (hb); replace HK := am (Kept.of_grown (S := (fun k_ => P0_ k_)) hg (by repeat (first | (with_reducible first | exact HK.out | apply Kept.alloc | apply Kept.drewN | apply Kept.drew) | exact HK.out)) (fun k_ e_ => (HO_0.out.1 k_ e_))); have HO553 := am (ho); clear HO_0; clear ho hb hg hat))
    go_roundg k1
    case measure => have := HK1.out; omega
    case rel => exact ⟨(y551), (IntKind.u64.wrap (Int.tdiv x1_1 128)), rfz, H', ⟨by have := HK1.out; omega⟩, ⟨rz HO553.out⟩, ⟨by repeat (first | (with_reducible first | exact HK.out | apply Kept.alloc | apply Kept.drewN | apply Kept.drew) | exact HK.out)⟩, ⟨hz HB.out⟩⟩
   ·
    rw [if_neg c3] at H
    have c3b0 : decide (128 ≤ x1_1) = false := decide_eq_false c3
    clear c3
    replace H := it_ H
    obtain ⟨c6, H⟩ := H
    have LMc6 := am c6
    clear c6
    obtain ⟨y554, hy554⟩ : ∃ y_ : List Int, y_ = (x0_1 ++ [(x1_1) % 256]) := ⟨_, rfl⟩
    replace H : (some y554) = some r := by first | (rw [hy554]; with_reducible exact H) | (have H2_ := (Option.bind_some _ _).symm.trans H; rw [hy554]; with_reducible exact H2_) | (have H2_ := (Option.bind_some _ _).symm.trans H; with_reducible exact H2_) | with_reducible exact H | (rw [hy554]; exact H) | exact H
    have Ny554 := am hy554
    clear hy554
    obtain rfl := Option.some.inj H
    go_wp2_with (first | ((with_reducible refine gate_builtin (b := .append) (xs := #[.tmp 16, .tmp 19]) rfl ?_); at_builtin; refine Kd.R_append (Kd.int .u8) (w0 := w0) w0.heap.size rfl (.tmp 16) (.tmp 19) 24 5 (.int .u8 0) 1 rfl Tryd.underlying24 info5 rfl (by decide) (by omega) u0 x0_1 ((x1_1) % 256) [.int .u8 ((x1_1) % 256)] (fun k_ => (P0_ k_ ∨ w.heap.size ≤ k_)) (fun _ => False) rfl rfl ?aP (fun _ hk => hk.elim) ?aF ?aO ?aB ?aS ?aL ?_; (case aP => exact rfl); (case aB => exact (hz HB.out)); (case aF => exact (fun k_ hk => (.inr (Nat.le_trans (by first | exact HK.out.1 | exact (show Kept w _ (fun k_ => P0_ k_) from by repeat (first | (with_reducible first | exact HK.out | apply Kept.alloc | apply Kept.drewN | apply Kept.drew) | exact HK.out)).1) hk)))); (case aO => exact (rz HO_0.out)); (case aS => exact (below_size (hz HB.out))); (case aL => have := LMc6.out; omega); intro v555 w7 ho hb hg hat; rw [← Ny554.out] at ho; replace HB := am (hb); replace HK := am (Kept.of_grown (S := (fun k_ => P0_ k_)) hg (by repeat (first | (with_reducible first | exact HK.out | apply Kept.alloc | apply Kept.drewN | apply Kept.drew) | exact HK.out)) (fun k_ e_ => (HO_0.out.1 k_ e_))); have HO556 := am (ho); clear HO_0; clear ho hb hg hat))
    go_ret
    exact ⟨_, ew, rz HO556.out, hz HB.out, by repeat (first | (with_reducible first | exact HK.out | apply Kept.alloc | apply Kept.drewN | apply Kept.drew) | exact HK.out)⟩

end Go.Proofs.YteeggfnailpcpaaDoor.Q
