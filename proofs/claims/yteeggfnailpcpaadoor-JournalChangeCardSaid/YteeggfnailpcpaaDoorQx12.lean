/- Made by wip/myprint.py of this session (it drives the kit's printer): what the calls of the Go functions come to, as plain Lean functions, and the row of a law over them; without conditions. -/
import Derived.Test.YteeggfnailpcpaaDoorQx0
import Derived.Test.YteeggfnailpcpaaDoorQx9
import Derived.Test.YteeggfnailpcpaaDoorQx10
import Derived.Test.YteeggfnailpcpaaDoorQx11
namespace Go.Proofs.YteeggfnailpcpaaDoor.Q
open Go.RowKit Go.Proofs.YteeggfnailpcpaaDoorW.PrintWords Go.Proofs.YteeggfnailpcpaaDoorW.PrintLast Go.Proofs.YteeggfnailpcpaaDoorW.PrintMore
attribute [local go_sem] max2_int min2_int max_two min_two max_three min_three max_four min_four   -- for this text's walks alone
set_option linter.unusedVariables false
set_option linter.unusedSimpArgs false

/-! ### examboardlaw49_same: function 12 -/
def examboardlaw49_same.l0 : Nat → List (S43) → List (S43) → Int → Int → Option (Bool)
 | 0, _, _, _, _ => none
 | k + 1, x0, x1, x12, x13 => if x13 < x12 then (if 0 ≤ x13 then (if x13 < (x0.length : Int) then (if x13 < (x1.length : Int) then ((examboardref10_Equal.f k ((rd_T43 x0 x13).f0) ((rd_T43 x0 x13).f1) ((rd_T43 x0 x13).f2) ((rd_T43 x0 x13).f3) ((rd_T43 x0 x13).f4) ((rd_T43 x1 x13).f0) ((rd_T43 x1 x13).f1) ((rd_T43 x1 x13).f2) ((rd_T43 x1 x13).f3) ((rd_T43 x1 x13).f4)).bind fun t315 => (if t315 = true then (examboardlaw49_same.l0 k x0 x1 x12 (wrap64 (x13 + 1))) else (some false))) else (none)) else (none)) else (none)) else (some true)
def examboardlaw49_same.f (k : Nat) (l0 : List (S43)) (l1 : List (S43)) : Option (Bool) := if (l0.length : Int) = (l1.length : Int) then (examboardlaw49_same.l0 k l0 l1 (l0.length : Int) 0) else (some false)
theorem examboardlaw49_same.mono_l : ∀ k, (∀ y0 y1 y2 y3, LeO (examboardlaw49_same.l0 k y0 y1 y2 y3) (examboardlaw49_same.l0 (k + 1) y0 y1 y2 y3))
 | 0 => fun _ _ _ _ r h => by simp [examboardlaw49_same.l0] at h
 | k + 1 => by
  have ih0 := examboardlaw49_same.mono_l k
  ·
   intro y0 y1 y2 y3
   unfold examboardlaw49_same.l0
   repeat' first
   | (with_reducible exact ih0 _ _ _ _)
   | (with_reducible exact examboardref10_Equal.mono _ _ _ _ _ _ _ _ _ _ _)
   | (with_reducible exact LeO.refl _)
   | (with_reducible exact LeO.none _)
   | (with_reducible refine LeO.ite ?_ ?_)
   | (with_reducible refine LeO.bind ?_ (fun _ => ?_))
   | exact ih0 _ _ _ _
   | exact examboardref10_Equal.mono _ _ _ _ _ _ _ _ _ _ _
   | exact LeO.none _
   | refine LeO.ite ?_ ?_
   | refine LeO.bind ?_ (fun _ => ?_)
theorem examboardlaw49_same.mono : ∀ a0 a1 k, LeO (examboardlaw49_same.f k a0 a1) (examboardlaw49_same.f (k + 1) a0 a1) := by
 intro a0 a1 k
 have ih0 := examboardlaw49_same.mono_l k
 unfold examboardlaw49_same.f
 repeat' first
   | (with_reducible exact ih0 _ _ _ _)
   | (with_reducible exact examboardref10_Equal.mono _ _ _ _ _ _ _ _ _ _ _)
   | (with_reducible exact LeO.refl _)
   | (with_reducible exact LeO.none _)
   | (with_reducible refine LeO.ite ?_ ?_)
   | (with_reducible refine LeO.bind ?_ (fun _ => ?_))
   | exact ih0 _ _ _ _
   | exact examboardref10_Equal.mono _ _ _ _ _ _ _ _ _ _ _
   | exact LeO.none _
   | refine LeO.ite ?_ ?_
   | refine LeO.bind ?_ (fun _ => ?_)
def examboardlaw49_same.T6 : Bool × List (List Nat × List Nat) := (true, [([], []), ([], []), ([0, 1], [0, 1]), ([2], [2]), ([], []), ([], []), ([4, 5], [4, 5]), ([6], [6]), ([3, 7], [3, 7]), ([8], [8])])
def examboardlaw49_same.B6 : List Nat := [0, 0, 3, 7, 0, 0, 48, 112, 255, 511]
theorem examboardlaw49_same.tab6 : rtab .any (opsOf Tryd.f12 6) = examboardlaw49_same.T6 := by kernel_rfl
theorem examboardlaw49_same.bits6 : waitsOk examboardlaw49_same.T6.2 examboardlaw49_same.B6 = true := by kernel_rfl
set_option maxHeartbeats 8000000 in
set_option maxRecDepth 100000 in
theorem examboardlaw49_same.calls (k : Nat) (A0 : Option Addr) (c0 : Nat) (l0 : List (S43)) (A1 : Option Addr) (c1 : Nat) (l1 : List (S43)) (r : Bool) (w : World) (hr0 : Kd.C k43 w A0 l0.length l0) (hc0 : l0.length ≤ c0) (hr1 : Kd.C k43 w A1 l1.length l1) (hc1 : l1.length ≤ c1) (h : examboardlaw49_same.f k l0 l1 = some r) :
  Calls Tryd.prog 12 #[.slice A0 l0.length c0, .slice A1 l1.length c1] w fun e w' => e = .returned (.bool r) ∧ Below w.heap.size w w' := by
 have hu43 := Tryd.underlying43
 have HR0 := am hr0
 have HC0 := am hc0
 clear hr0 hc0
 have HR1 := am hr1
 have HC1 := am hc1
 clear hr1 hc1
 have HB := am (Below.refl w.heap.size w)
 have H : (if (l0.length : Int) = (l1.length : Int) then (examboardlaw49_same.l0 k l0 l1 (l0.length : Int) 0) else (some false)) = some r := h
 clear h
 by_cases c3 : (l0.length : Int) = (l1.length : Int)
 ·
  rw [if_pos c3] at H
  have c3b0 : ((l0.length : Int) == (l1.length : Int)) = true := beq_iff_eq.mpr c3
  have c3b1 : ((l0.length : Int) != (l1.length : Int)) = false := bne_eq_false_iff_eq.mpr c3
  have c3b2 : (l0.length == l1.length) = true := by first | simpa using c3 | (simp at c3 ⊢; omega)
  clear c3
  have H' := am H
  clear H
  go_enter Tryd.func12, Tryd.ntmps12
  go_wp2
  go_loopg [13] k (fun kq v13 w' => ∃ (x13_1 : Int), v13 = .int .i64 x13_1 ∧ Aside0 (examboardlaw49_same.l0 kq l0 l1 (l0.length : Int) x13_1 = some r) ∧ Aside0 (kq ≤ k) ∧ Aside0 (Below w.heap.size w w'))
  case atStart => exact ⟨(0), (by first | rfl | (simp; done) | (simp [*]; done)), H', ⟨Nat.le_refl _⟩, ⟨hz HB.out⟩⟩
  case round =>
   clear H'
   try clear c1
   try clear p2
   try clear c3
   try clear c3b0
   try clear c3b1
   try clear c3b2
   obtain ⟨x13_1, rfl, HA, HK1, HB⟩ := hrel
   cases gk with
   | zero => exact absurd HA.out (by simp [examboardlaw49_same.l0])
   | succ k1 =>
    have H := HA.out
    clear HA
    simp only [examboardlaw49_same.l0] at H
    by_cases c4 : x13_1 < (l0.length : Int)
    ·
     rw [if_pos c4] at H
     have c4b0 : decide (x13_1 < (l0.length : Int)) = true := decide_eq_true c4
     clear c4
     replace H := it_ H
     obtain ⟨c5, H⟩ := H
     have c5b0 : decide (0 ≤ x13_1) = true := decide_eq_true c5
     clear c5
     replace H := it_ H
     obtain ⟨c6, H⟩ := H
     have c6b0 : decide (x13_1 < (l0.length : Int)) = true := decide_eq_true c6
     clear c6
     replace H := it_ H
     obtain ⟨c7, H⟩ := H
     have c7b0 : decide (x13_1 < (l1.length : Int)) = true := decide_eq_true c7
     clear c7
     replace H := Option.bind_eq_some_iff.mp H
     obtain ⟨t315, A80, H⟩ := H
     replace H : (if t315 = true then (examboardlaw49_same.l0 k1 l0 l1 (l0.length : Int) (wrap64 (x13_1 + 1))) else (some false)) = some r := H
     have A8 := am A80
     clear A80
     by_cases c9 : t315 = true
     ·
      subst c9
      have H1 : (examboardlaw49_same.l0 k1 l0 l1 (l0.length : Int) (wrap64 (x13_1 + 1))) = some r := by rw [if_pos rfl] at H; exact H
      clear H
      have H := H1
      clear H1
      have H' := am H
      clear H
      try go_wp2
      replace HB := am (below_drew1 HB.out)
      have p313 : 0 ≤ (x13_1 : Int) := of_decide_eq_true az
      have q313 : x13_1 < (l0.length : Int) := of_decide_eq_true az
      obtain ⟨ad313, A313_4, c313_4, e313, hx313_0, hx313_1, hx313_2, hx313_3, hx313_4, hl313_4, hi313_4⟩ := at_T43 HR0.out x13_1 p313 q313
      have hw313_4 := hx313_4
      have hw313_3 := hx313_3
      have hw313_2 := hx313_2
      have hw313_1 := hx313_1
      have hw313_0 := hx313_0
      cases e313
      replace hx313_0 := (HB.out.cell (World.block_lt_of_cell? w _ hx313_0)).trans hx313_0
      replace hx313_1 := (HB.out.cell (World.block_lt_of_cell? w _ hx313_1)).trans hx313_1
      replace hx313_2 := (HB.out.cell (World.block_lt_of_cell? w _ hx313_2)).trans hx313_2
      replace hx313_3 := (HB.out.cell (World.block_lt_of_cell? w _ hx313_3)).trans hx313_3
      replace hx313_4 := (HB.out.cell (World.block_lt_of_cell? w _ hx313_4)).trans hx313_4
      have HR313_4 := am hi313_4
      have HC313_4 := am hl313_4
      clear hi313_4 hl313_4
      replace p313 := eq_true p313
      replace q313 := eq_true q313
      have p314 : 0 ≤ (x13_1 : Int) := of_decide_eq_true az
      have q314 : x13_1 < (l1.length : Int) := of_decide_eq_true az
      obtain ⟨ad314, A314_4, c314_4, e314, hx314_0, hx314_1, hx314_2, hx314_3, hx314_4, hl314_4, hi314_4⟩ := at_T43 HR1.out x13_1 p314 q314
      have hw314_4 := hx314_4
      have hw314_3 := hx314_3
      have hw314_2 := hx314_2
      have hw314_1 := hx314_1
      have hw314_0 := hx314_0
      cases e314
      replace hx314_0 := (HB.out.cell (World.block_lt_of_cell? w _ hx314_0)).trans hx314_0
      replace hx314_1 := (HB.out.cell (World.block_lt_of_cell? w _ hx314_1)).trans hx314_1
      replace hx314_2 := (HB.out.cell (World.block_lt_of_cell? w _ hx314_2)).trans hx314_2
      replace hx314_3 := (HB.out.cell (World.block_lt_of_cell? w _ hx314_3)).trans hx314_3
      replace hx314_4 := (HB.out.cell (World.block_lt_of_cell? w _ hx314_4)).trans hx314_4
      have HR314_4 := am hi314_4
      have HC314_4 := am hl314_4
      clear hi314_4 hl314_4
      replace p314 := eq_true p314
      replace q314 := eq_true q314
      refine start_ (n := 10) (S := fun w' => w'.cell? (ad313.add ((x13_1).toNat * 5)) = some (.int .i64 ((rd_T43 l0 x13_1).f0)) ∧ w'.cell? ⟨(ad313.add ((x13_1).toNat * 5)).block, (ad313.add ((x13_1).toNat * 5)).off + 1, none⟩ = some (.int .i64 ((rd_T43 l0 x13_1).f1)) ∧ w'.cell? ⟨(ad313.add ((x13_1).toNat * 5)).block, (ad313.add ((x13_1).toNat * 5)).off + 2, none⟩ = some (.int .i64 ((rd_T43 l0 x13_1).f2)) ∧ w'.cell? ⟨(ad313.add ((x13_1).toNat * 5)).block, (ad313.add ((x13_1).toNat * 5)).off + 3, none⟩ = some (.string ((rd_T43 l0 x13_1).f3)) ∧ w'.cell? ⟨(ad313.add ((x13_1).toNat * 5)).block, (ad313.add ((x13_1).toNat * 5)).off + 4, none⟩ = some (.slice A313_4 ((rd_T43 l0 x13_1).f4).length c313_4) ∧ w'.cell? (ad314.add ((x13_1).toNat * 5)) = some (.int .i64 ((rd_T43 l1 x13_1).f0)) ∧ w'.cell? ⟨(ad314.add ((x13_1).toNat * 5)).block, (ad314.add ((x13_1).toNat * 5)).off + 1, none⟩ = some (.int .i64 ((rd_T43 l1 x13_1).f1)) ∧ w'.cell? ⟨(ad314.add ((x13_1).toNat * 5)).block, (ad314.add ((x13_1).toNat * 5)).off + 2, none⟩ = some (.int .i64 ((rd_T43 l1 x13_1).f2)) ∧ w'.cell? ⟨(ad314.add ((x13_1).toNat * 5)).block, (ad314.add ((x13_1).toNat * 5)).off + 3, none⟩ = some (.string ((rd_T43 l1 x13_1).f3)) ∧ w'.cell? ⟨(ad314.add ((x13_1).toNat * 5)).block, (ad314.add ((x13_1).toNat * 5)).off + 4, none⟩ = some (.slice A314_4 ((rd_T43 l1 x13_1).f4).length c314_4)) (ds := []) #[false, false, false, false, false, false, false, false, false, false] (by kernel_rfl) rfl rfl ⟨((HB.out.cell (World.block_lt_of_cell? w _ hw313_0)).trans hw313_0), ((HB.out.cell (World.block_lt_of_cell? w _ hw313_1)).trans hw313_1), ((HB.out.cell (World.block_lt_of_cell? w _ hw313_2)).trans hw313_2), ((HB.out.cell (World.block_lt_of_cell? w _ hw313_3)).trans hw313_3), ((HB.out.cell (World.block_lt_of_cell? w _ hw313_4)).trans hw313_4), ((HB.out.cell (World.block_lt_of_cell? w _ hw314_0)).trans hw314_0), ((HB.out.cell (World.block_lt_of_cell? w _ hw314_1)).trans hw314_1), ((HB.out.cell (World.block_lt_of_cell? w _ hw314_2)).trans hw314_2), ((HB.out.cell (World.block_lt_of_cell? w _ hw314_3)).trans hw314_3), ((HB.out.cell (World.block_lt_of_cell? w _ hw314_4)).trans hw314_4)⟩ (fun hHeld => ?_); refine with_tabW examboardlaw49_same.tab6 examboardlaw49_same.bits6 (fun HT_ HW_ => ?_)
      generalize wr.drew = w10 at HB HR313_4 HR314_4 hx313_0 hx313_1 hx313_2 hx313_3 hx313_4 hx314_0 hx314_1 hx314_2 hx314_3 hx314_4 hHeld ⊢
      refine pz 0 16 HT_.out ?_
      refine pz 1 17 HT_.out ?_
      refine pz 2 18 HT_.out ?_
      refine pz 4 20 HT_.out ?_
      refine pz 5 21 HT_.out ?_
      refine pz 6 22 HT_.out ?_
      refine take_ (i := 3) (N := some 19) (v := ?_) (a' := ?_) #[true, true, true, true, true, true, true, false, false, false] rfl rfl (take_ofW HT_.out HW_.out (by kernel_rfl)) (fun _ _ _ h => h) (Or.inl ⟨by rfl, ?_⟩) hHeld ?_ ?_
      rotate_left
      ·
       rintro w' ⟨s0, s1, s2, s3, s4, s5, s6, s7, s8, s9⟩
       go_simp
       with_reducible rfl
      rotate_left
      ·
       simp only [Act.put, List.setIfInBounds_toArray, List.set_cons_zero, List.set_cons_succ, i64_w, i32_w]
       rfl
      refine take_ (i := 7) (N := some 23) (v := ?_) (a' := ?_) #[true, true, true, true, true, true, true, true, false, false] rfl rfl (take_ofW HT_.out HW_.out (by kernel_rfl)) (fun _ _ _ h => h) (Or.inl ⟨by rfl, ?_⟩) hHeld ?_ ?_
      rotate_left
      ·
       rintro w' ⟨s0, s1, s2, s3, s4, s5, s6, s7, s8, s9⟩
       go_simp
       with_reducible rfl
      rotate_left
      ·
       simp only [Act.put, List.setIfInBounds_toArray, List.set_cons_zero, List.set_cons_succ, i64_w, i32_w]
       rfl
      refine oz 8 24 HT_.out (fun K hK => ?_)
      refine goes_ Tryd.func33 (by kernel_rfl) rfl #[.agg #[.int .i64 ((rd_T43 l0 x13_1).f0), .int .i64 ((rd_T43 l0 x13_1).f1), .int .i64 ((rd_T43 l0 x13_1).f2), .string ((rd_T43 l0 x13_1).f3), .slice A313_4 ((rd_T43 l0 x13_1).f4).length c313_4], .agg #[.int .i64 ((rd_T43 l1 x13_1).f0), .int .i64 ((rd_T43 l1 x13_1).f1), .int .i64 ((rd_T43 l1 x13_1).f2), .string ((rd_T43 l1 x13_1).f3), .slice A314_4 ((rd_T43 l1 x13_1).f4).length c314_4]] (by rfl) rfl rfl lz ?_
      with_reducible refine (examboardref10_Equal.calls k1 ((rd_T43 l0 x13_1).f0) ((rd_T43 l0 x13_1).f1) ((rd_T43 l0 x13_1).f2) ((rd_T43 l0 x13_1).f3) _ _ ((rd_T43 l0 x13_1).f4) ((rd_T43 l1 x13_1).f0) ((rd_T43 l1 x13_1).f1) ((rd_T43 l1 x13_1).f2) ((rd_T43 l1 x13_1).f3) _ _ ((rd_T43 l1 x13_1).f4) true _ ?side1 ?side2 ?side3 ?side4 A8.out).mono ?_
      (case side1 => exact cz (Kd.C_below HR313_4.out HB.out))
      (case side2 => exact HC313_4.out)
      (case side3 => exact cz (Kd.C_below HR314_4.out HB.out))
      (case side4 => exact HC314_4.out)
      rintro e w11 ⟨rfl, hb⟩
      refine ⟨_, rfl, ?_⟩
      replace HB := am (below_step (hz HB.out) hb)
      (try clear hb)
      (try clear hb2)
      (try clear hk)
      (try clear hi)
      refine hK.out _ _ ⟨((HB.out.cell (World.block_lt_of_cell? w _ hw313_0)).trans hw313_0), ((HB.out.cell (World.block_lt_of_cell? w _ hw313_1)).trans hw313_1), ((HB.out.cell (World.block_lt_of_cell? w _ hw313_2)).trans hw313_2), ((HB.out.cell (World.block_lt_of_cell? w _ hw313_3)).trans hw313_3), ((HB.out.cell (World.block_lt_of_cell? w _ hw313_4)).trans hw313_4), ((HB.out.cell (World.block_lt_of_cell? w _ hw314_0)).trans hw314_0), ((HB.out.cell (World.block_lt_of_cell? w _ hw314_1)).trans hw314_1), ((HB.out.cell (World.block_lt_of_cell? w _ hw314_2)).trans hw314_2), ((HB.out.cell (World.block_lt_of_cell? w _ hw314_3)).trans hw314_3), ((HB.out.cell (World.block_lt_of_cell? w _ hw314_4)).trans hw314_4)⟩ (fun hHeld => ?_)
      clear hK K
      refine norm_ (a' := ?_) ?_ ?_
      rotate_left
      ·
       show Act.put _ (some 24) _ = _
       simp only [Act.put, List.setIfInBounds_toArray, List.set_cons_zero, List.set_cons_succ, i64_w, i32_w]
       rfl
      refine pz 9 25 HT_.out ?_
      refine done_ (done_of HT_.out (by kernel_rfl)) ?_
      try go_wp2
      go_roundg k1
      case measure => have := HK1.out; omega
      case rel => exact ⟨(wrap64 (x13_1 + 1)), (by first | rfl | (simp; done) | (simp [*]; done)), H', ⟨by have := HK1.out; omega⟩, ⟨hz HB.out⟩⟩
     ·
      replace c9 := Bool.eq_false_iff.mpr c9
      subst c9
      have H1 : (some false) = some r := by rw [if_neg (show ¬ (false = true) by decide)] at H; exact H
      clear H
      have H := H1
      clear H1
      obtain rfl := Option.some.inj H
      try go_wp2
      replace HB := am (below_drew1 HB.out)
      have p313 : 0 ≤ (x13_1 : Int) := of_decide_eq_true az
      have q313 : x13_1 < (l0.length : Int) := of_decide_eq_true az
      obtain ⟨ad313, A313_4, c313_4, e313, hx313_0, hx313_1, hx313_2, hx313_3, hx313_4, hl313_4, hi313_4⟩ := at_T43 HR0.out x13_1 p313 q313
      have hw313_4 := hx313_4
      have hw313_3 := hx313_3
      have hw313_2 := hx313_2
      have hw313_1 := hx313_1
      have hw313_0 := hx313_0
      cases e313
      replace hx313_0 := (HB.out.cell (World.block_lt_of_cell? w _ hx313_0)).trans hx313_0
      replace hx313_1 := (HB.out.cell (World.block_lt_of_cell? w _ hx313_1)).trans hx313_1
      replace hx313_2 := (HB.out.cell (World.block_lt_of_cell? w _ hx313_2)).trans hx313_2
      replace hx313_3 := (HB.out.cell (World.block_lt_of_cell? w _ hx313_3)).trans hx313_3
      replace hx313_4 := (HB.out.cell (World.block_lt_of_cell? w _ hx313_4)).trans hx313_4
      have HR313_4 := am hi313_4
      have HC313_4 := am hl313_4
      clear hi313_4 hl313_4
      replace p313 := eq_true p313
      replace q313 := eq_true q313
      have p314 : 0 ≤ (x13_1 : Int) := of_decide_eq_true az
      have q314 : x13_1 < (l1.length : Int) := of_decide_eq_true az
      obtain ⟨ad314, A314_4, c314_4, e314, hx314_0, hx314_1, hx314_2, hx314_3, hx314_4, hl314_4, hi314_4⟩ := at_T43 HR1.out x13_1 p314 q314
      have hw314_4 := hx314_4
      have hw314_3 := hx314_3
      have hw314_2 := hx314_2
      have hw314_1 := hx314_1
      have hw314_0 := hx314_0
      cases e314
      replace hx314_0 := (HB.out.cell (World.block_lt_of_cell? w _ hx314_0)).trans hx314_0
      replace hx314_1 := (HB.out.cell (World.block_lt_of_cell? w _ hx314_1)).trans hx314_1
      replace hx314_2 := (HB.out.cell (World.block_lt_of_cell? w _ hx314_2)).trans hx314_2
      replace hx314_3 := (HB.out.cell (World.block_lt_of_cell? w _ hx314_3)).trans hx314_3
      replace hx314_4 := (HB.out.cell (World.block_lt_of_cell? w _ hx314_4)).trans hx314_4
      have HR314_4 := am hi314_4
      have HC314_4 := am hl314_4
      clear hi314_4 hl314_4
      replace p314 := eq_true p314
      replace q314 := eq_true q314
      refine start_ (n := 10) (S := fun w' => w'.cell? (ad313.add ((x13_1).toNat * 5)) = some (.int .i64 ((rd_T43 l0 x13_1).f0)) ∧ w'.cell? ⟨(ad313.add ((x13_1).toNat * 5)).block, (ad313.add ((x13_1).toNat * 5)).off + 1, none⟩ = some (.int .i64 ((rd_T43 l0 x13_1).f1)) ∧ w'.cell? ⟨(ad313.add ((x13_1).toNat * 5)).block, (ad313.add ((x13_1).toNat * 5)).off + 2, none⟩ = some (.int .i64 ((rd_T43 l0 x13_1).f2)) ∧ w'.cell? ⟨(ad313.add ((x13_1).toNat * 5)).block, (ad313.add ((x13_1).toNat * 5)).off + 3, none⟩ = some (.string ((rd_T43 l0 x13_1).f3)) ∧ w'.cell? ⟨(ad313.add ((x13_1).toNat * 5)).block, (ad313.add ((x13_1).toNat * 5)).off + 4, none⟩ = some (.slice A313_4 ((rd_T43 l0 x13_1).f4).length c313_4) ∧ w'.cell? (ad314.add ((x13_1).toNat * 5)) = some (.int .i64 ((rd_T43 l1 x13_1).f0)) ∧ w'.cell? ⟨(ad314.add ((x13_1).toNat * 5)).block, (ad314.add ((x13_1).toNat * 5)).off + 1, none⟩ = some (.int .i64 ((rd_T43 l1 x13_1).f1)) ∧ w'.cell? ⟨(ad314.add ((x13_1).toNat * 5)).block, (ad314.add ((x13_1).toNat * 5)).off + 2, none⟩ = some (.int .i64 ((rd_T43 l1 x13_1).f2)) ∧ w'.cell? ⟨(ad314.add ((x13_1).toNat * 5)).block, (ad314.add ((x13_1).toNat * 5)).off + 3, none⟩ = some (.string ((rd_T43 l1 x13_1).f3)) ∧ w'.cell? ⟨(ad314.add ((x13_1).toNat * 5)).block, (ad314.add ((x13_1).toNat * 5)).off + 4, none⟩ = some (.slice A314_4 ((rd_T43 l1 x13_1).f4).length c314_4)) (ds := []) #[false, false, false, false, false, false, false, false, false, false] (by kernel_rfl) rfl rfl ⟨((HB.out.cell (World.block_lt_of_cell? w _ hw313_0)).trans hw313_0), ((HB.out.cell (World.block_lt_of_cell? w _ hw313_1)).trans hw313_1), ((HB.out.cell (World.block_lt_of_cell? w _ hw313_2)).trans hw313_2), ((HB.out.cell (World.block_lt_of_cell? w _ hw313_3)).trans hw313_3), ((HB.out.cell (World.block_lt_of_cell? w _ hw313_4)).trans hw313_4), ((HB.out.cell (World.block_lt_of_cell? w _ hw314_0)).trans hw314_0), ((HB.out.cell (World.block_lt_of_cell? w _ hw314_1)).trans hw314_1), ((HB.out.cell (World.block_lt_of_cell? w _ hw314_2)).trans hw314_2), ((HB.out.cell (World.block_lt_of_cell? w _ hw314_3)).trans hw314_3), ((HB.out.cell (World.block_lt_of_cell? w _ hw314_4)).trans hw314_4)⟩ (fun hHeld => ?_); refine with_tabW examboardlaw49_same.tab6 examboardlaw49_same.bits6 (fun HT_ HW_ => ?_)
      generalize wr.drew = w12 at HB HR313_4 HR314_4 hx313_0 hx313_1 hx313_2 hx313_3 hx313_4 hx314_0 hx314_1 hx314_2 hx314_3 hx314_4 hHeld ⊢
      refine pz 0 16 HT_.out ?_
      refine pz 1 17 HT_.out ?_
      refine pz 2 18 HT_.out ?_
      refine pz 4 20 HT_.out ?_
      refine pz 5 21 HT_.out ?_
      refine pz 6 22 HT_.out ?_
      refine take_ (i := 3) (N := some 19) (v := ?_) (a' := ?_) #[true, true, true, true, true, true, true, false, false, false] rfl rfl (take_ofW HT_.out HW_.out (by kernel_rfl)) (fun _ _ _ h => h) (Or.inl ⟨by rfl, ?_⟩) hHeld ?_ ?_
      rotate_left
      ·
       rintro w' ⟨s0, s1, s2, s3, s4, s5, s6, s7, s8, s9⟩
       go_simp
       with_reducible rfl
      rotate_left
      ·
       simp only [Act.put, List.setIfInBounds_toArray, List.set_cons_zero, List.set_cons_succ, i64_w, i32_w]
       rfl
      refine take_ (i := 7) (N := some 23) (v := ?_) (a' := ?_) #[true, true, true, true, true, true, true, true, false, false] rfl rfl (take_ofW HT_.out HW_.out (by kernel_rfl)) (fun _ _ _ h => h) (Or.inl ⟨by rfl, ?_⟩) hHeld ?_ ?_
      rotate_left
      ·
       rintro w' ⟨s0, s1, s2, s3, s4, s5, s6, s7, s8, s9⟩
       go_simp
       with_reducible rfl
      rotate_left
      ·
       simp only [Act.put, List.setIfInBounds_toArray, List.set_cons_zero, List.set_cons_succ, i64_w, i32_w]
       rfl
      refine oz 8 24 HT_.out (fun K hK => ?_)
      refine goes_ Tryd.func33 (by kernel_rfl) rfl #[.agg #[.int .i64 ((rd_T43 l0 x13_1).f0), .int .i64 ((rd_T43 l0 x13_1).f1), .int .i64 ((rd_T43 l0 x13_1).f2), .string ((rd_T43 l0 x13_1).f3), .slice A313_4 ((rd_T43 l0 x13_1).f4).length c313_4], .agg #[.int .i64 ((rd_T43 l1 x13_1).f0), .int .i64 ((rd_T43 l1 x13_1).f1), .int .i64 ((rd_T43 l1 x13_1).f2), .string ((rd_T43 l1 x13_1).f3), .slice A314_4 ((rd_T43 l1 x13_1).f4).length c314_4]] (by rfl) rfl rfl lz ?_
      with_reducible refine (examboardref10_Equal.calls k1 ((rd_T43 l0 x13_1).f0) ((rd_T43 l0 x13_1).f1) ((rd_T43 l0 x13_1).f2) ((rd_T43 l0 x13_1).f3) _ _ ((rd_T43 l0 x13_1).f4) ((rd_T43 l1 x13_1).f0) ((rd_T43 l1 x13_1).f1) ((rd_T43 l1 x13_1).f2) ((rd_T43 l1 x13_1).f3) _ _ ((rd_T43 l1 x13_1).f4) false _ ?side1 ?side2 ?side3 ?side4 A8.out).mono ?_
      (case side1 => exact cz (Kd.C_below HR313_4.out HB.out))
      (case side2 => exact HC313_4.out)
      (case side3 => exact cz (Kd.C_below HR314_4.out HB.out))
      (case side4 => exact HC314_4.out)
      rintro e w13 ⟨rfl, hb⟩
      refine ⟨_, rfl, ?_⟩
      replace HB := am (below_step (hz HB.out) hb)
      (try clear hb)
      (try clear hb2)
      (try clear hk)
      (try clear hi)
      refine hK.out _ _ ⟨((HB.out.cell (World.block_lt_of_cell? w _ hw313_0)).trans hw313_0), ((HB.out.cell (World.block_lt_of_cell? w _ hw313_1)).trans hw313_1), ((HB.out.cell (World.block_lt_of_cell? w _ hw313_2)).trans hw313_2), ((HB.out.cell (World.block_lt_of_cell? w _ hw313_3)).trans hw313_3), ((HB.out.cell (World.block_lt_of_cell? w _ hw313_4)).trans hw313_4), ((HB.out.cell (World.block_lt_of_cell? w _ hw314_0)).trans hw314_0), ((HB.out.cell (World.block_lt_of_cell? w _ hw314_1)).trans hw314_1), ((HB.out.cell (World.block_lt_of_cell? w _ hw314_2)).trans hw314_2), ((HB.out.cell (World.block_lt_of_cell? w _ hw314_3)).trans hw314_3), ((HB.out.cell (World.block_lt_of_cell? w _ hw314_4)).trans hw314_4)⟩ (fun hHeld => ?_)
      clear hK K
      refine norm_ (a' := ?_) ?_ ?_
      rotate_left
      ·
       show Act.put _ (some 24) _ = _
       simp only [Act.put, List.setIfInBounds_toArray, List.set_cons_zero, List.set_cons_succ, i64_w, i32_w]
       rfl
      refine pz 9 25 HT_.out ?_
      refine done_ (done_of HT_.out (by kernel_rfl)) ?_
      try go_wp2
      go_ret
      exact ⟨ez, hz HB.out⟩
    ·
     rw [if_neg c4] at H
     have c4b0 : decide (x13_1 < (l0.length : Int)) = false := decide_eq_false c4
     clear c4
     obtain rfl := Option.some.inj H
     go_wp2
     go_ret
     exact ⟨ez, hz HB.out⟩
 ·
  rw [if_neg c3] at H
  have c3b0 : ((l0.length : Int) == (l1.length : Int)) = false := beq_eq_false_iff_ne.mpr c3
  have c3b1 : ((l0.length : Int) != (l1.length : Int)) = true := bne_iff_ne.mpr c3
  have c3b2 : (l0.length == l1.length) = false := by first | simpa using c3 | (simp at c3 ⊢; omega)
  obtain rfl := Option.some.inj H
  go_enter Tryd.func12, Tryd.ntmps12
  go_wp2
  go_ret
  exact ⟨ez, hz HB.out⟩

/-! ### examboardlaw49_equal: function 13 -/
def examboardlaw49_equal.l0 : Nat → List Int → List Int → Int → Int → Option (Bool)
 | 0, _, _, _, _ => none
 | k + 1, x0, x1, x12, x13 => if x13 < x12 then (if 0 ≤ x13 then (if x13 < (x0.length : Int) then (if x13 < (x1.length : Int) then (if (rd x0 x13) = (rd x1 x13) then (examboardlaw49_equal.l0 k x0 x1 x12 (wrap64 (x13 + 1))) else (some false)) else (none)) else (none)) else (none)) else (some true)
def examboardlaw49_equal.f (k : Nat) (l0 : List Int) (l1 : List Int) : Option (Bool) := if (l0.length : Int) = (l1.length : Int) then (examboardlaw49_equal.l0 k l0 l1 (l0.length : Int) 0) else (some false)
theorem examboardlaw49_equal.mono_l : ∀ k, (∀ y0 y1 y2 y3, LeO (examboardlaw49_equal.l0 k y0 y1 y2 y3) (examboardlaw49_equal.l0 (k + 1) y0 y1 y2 y3))
 | 0 => fun _ _ _ _ r h => by simp [examboardlaw49_equal.l0] at h
 | k + 1 => by
  have ih0 := examboardlaw49_equal.mono_l k
  ·
   intro y0 y1 y2 y3
   unfold examboardlaw49_equal.l0
   repeat' first
   | (with_reducible exact ih0 _ _ _ _)
   | (with_reducible exact LeO.refl _)
   | (with_reducible exact LeO.none _)
   | (with_reducible refine LeO.ite ?_ ?_)
   | (with_reducible refine LeO.bind ?_ (fun _ => ?_))
   | exact ih0 _ _ _ _
   | exact LeO.none _
   | refine LeO.ite ?_ ?_
   | refine LeO.bind ?_ (fun _ => ?_)
theorem examboardlaw49_equal.mono : ∀ a0 a1 k, LeO (examboardlaw49_equal.f k a0 a1) (examboardlaw49_equal.f (k + 1) a0 a1) := by
 intro a0 a1 k
 have ih0 := examboardlaw49_equal.mono_l k
 unfold examboardlaw49_equal.f
 repeat' first
   | (with_reducible exact ih0 _ _ _ _)
   | (with_reducible exact LeO.refl _)
   | (with_reducible exact LeO.none _)
   | (with_reducible refine LeO.ite ?_ ?_)
   | (with_reducible refine LeO.bind ?_ (fun _ => ?_))
   | exact ih0 _ _ _ _
   | exact LeO.none _
   | refine LeO.ite ?_ ?_
   | refine LeO.bind ?_ (fun _ => ?_)
set_option maxHeartbeats 8000000 in
set_option maxRecDepth 100000 in
theorem examboardlaw49_equal.calls (k : Nat) (A0 : Option Addr) (c0 : Nat) (l0 : List Int) (A1 : Option Addr) (c1 : Nat) (l1 : List Int) (r : Bool) (w : World) (hr0 : Kd.C (Kd.int .u8) w A0 l0.length l0) (hc0 : l0.length ≤ c0) (hr1 : Kd.C (Kd.int .u8) w A1 l1.length l1) (hc1 : l1.length ≤ c1) (h : examboardlaw49_equal.f k l0 l1 = some r) :
  Calls Tryd.prog 13 #[.slice A0 l0.length c0, .slice A1 l1.length c1] w fun e w' => e = .returned (.bool r) ∧ Drawn0 w w' := by
 have HR0 := am hr0
 have HC0 := am hc0
 clear hr0 hc0
 have HR1 := am hr1
 have HC1 := am hc1
 clear hr1 hc1
 have H : (if (l0.length : Int) = (l1.length : Int) then (examboardlaw49_equal.l0 k l0 l1 (l0.length : Int) 0) else (some false)) = some r := h
 clear h
 by_cases c3 : (l0.length : Int) = (l1.length : Int)
 ·
  rw [if_pos c3] at H
  have c3b0 : ((l0.length : Int) == (l1.length : Int)) = true := beq_iff_eq.mpr c3
  have c3b1 : ((l0.length : Int) != (l1.length : Int)) = false := bne_eq_false_iff_eq.mpr c3
  have c3b2 : (l0.length == l1.length) = true := by first | simpa using c3 | (simp at c3 ⊢; omega)
  clear c3
  have H' := am H
  clear H
  go_enter Tryd.func13, Tryd.ntmps13
  go_wp2
  repeat (go_quiet (fail); try go_wp2)
  go_loopg [13] k (fun kq v13 w' => ∃ (x13_1 : Int), v13 = .int .i64 x13_1 ∧ Aside0 (examboardlaw49_equal.l0 kq l0 l1 (l0.length : Int) x13_1 = some r) ∧ Aside0 (kq ≤ k) ∧ Drawn0 w w')
  case atStart => exact ⟨(0), (by first | rfl | (simp; done) | (simp [*]; done)), H', ⟨Nat.le_refl _⟩, by repeat (first | exact Drawn0.refl _ | apply Drawn0.step)⟩
  case round =>
   clear H'
   try clear c1
   try clear p2
   try clear c3
   try clear c3b0
   try clear c3b1
   try clear c3b2
   obtain ⟨x13_1, rfl, HA, HK1, ⟨m1, rfl⟩⟩ := hrel
   cases gk with
   | zero => exact absurd HA.out (by simp [examboardlaw49_equal.l0])
   | succ k1 =>
    have H := HA.out
    clear HA
    simp only [examboardlaw49_equal.l0] at H
    by_cases c4 : x13_1 < (l0.length : Int)
    ·
     rw [if_pos c4] at H
     have c4b0 : decide (x13_1 < (l0.length : Int)) = true := decide_eq_true c4
     clear c4
     replace H := it_ H
     obtain ⟨c5, H⟩ := H
     have c5b0 : decide (0 ≤ x13_1) = true := decide_eq_true c5
     clear c5
     replace H := it_ H
     obtain ⟨c6, H⟩ := H
     have c6b0 : decide (x13_1 < (l0.length : Int)) = true := decide_eq_true c6
     clear c6
     replace H := it_ H
     obtain ⟨c7, H⟩ := H
     have c7b0 : decide (x13_1 < (l1.length : Int)) = true := decide_eq_true c7
     clear c7
     by_cases c8 : (rd l0 x13_1) = (rd l1 x13_1)
     ·
      rw [if_pos c8] at H
      have c8b0 : ((rd l0 x13_1) == (rd l1 x13_1)) = true := beq_iff_eq.mpr c8
      have c8b1 : ((rd l0 x13_1) != (rd l1 x13_1)) = false := bne_eq_false_iff_eq.mpr c8
      clear c8
      have H' := am H
      clear H
      have p316 : 0 ≤ (x13_1 : Int) := of_decide_eq_true az
      have q316 : x13_1 < (l0.length : Int) := of_decide_eq_true az
      obtain ⟨ad316, e316, hx316_0⟩ := Kd.at_int HR0.out x13_1 p316 q316
      cases e316
      replace p316 := eq_true p316
      replace q316 := eq_true q316
      have p317 : 0 ≤ (x13_1 : Int) := of_decide_eq_true az
      have q317 : x13_1 < (l1.length : Int) := of_decide_eq_true az
      obtain ⟨ad317, e317, hx317_0⟩ := Kd.at_int HR1.out x13_1 p317 q317
      cases e317
      replace p317 := eq_true p317
      replace q317 := eq_true q317
      go_wp2
      repeat (go_quiet (fail); try go_wp2)
      go_roundg k1
      case measure => have := HK1.out; omega
      case rel => exact ⟨(wrap64 (x13_1 + 1)), (by first | rfl | (simp; done) | (simp [*]; done)), H', ⟨by have := HK1.out; omega⟩, by repeat (first | exact Drawn0.refl _ | apply Drawn0.step)⟩
     ·
      rw [if_neg c8] at H
      have c8b0 : ((rd l0 x13_1) == (rd l1 x13_1)) = false := beq_eq_false_iff_ne.mpr c8
      have c8b1 : ((rd l0 x13_1) != (rd l1 x13_1)) = true := bne_iff_ne.mpr c8
      obtain rfl := Option.some.inj H
      have p316 : 0 ≤ (x13_1 : Int) := of_decide_eq_true az
      have q316 : x13_1 < (l0.length : Int) := of_decide_eq_true az
      obtain ⟨ad316, e316, hx316_0⟩ := Kd.at_int HR0.out x13_1 p316 q316
      cases e316
      replace p316 := eq_true p316
      replace q316 := eq_true q316
      have p317 : 0 ≤ (x13_1 : Int) := of_decide_eq_true az
      have q317 : x13_1 < (l1.length : Int) := of_decide_eq_true az
      obtain ⟨ad317, e317, hx317_0⟩ := Kd.at_int HR1.out x13_1 p317 q317
      cases e317
      replace p317 := eq_true p317
      replace q317 := eq_true q317
      go_wp2
      repeat (go_quiet (fail); try go_wp2)
      go_ret
      exact ⟨by first | rfl | (simp; done) | (simp [*]; done), by repeat (first | exact Drawn0.refl _ | apply Drawn0.step)⟩
    ·
     rw [if_neg c4] at H
     have c4b0 : decide (x13_1 < (l0.length : Int)) = false := decide_eq_false c4
     clear c4
     obtain rfl := Option.some.inj H
     go_wp2
     repeat (go_quiet (fail); try go_wp2)
     go_ret
     exact ⟨by first | rfl | (simp; done) | (simp [*]; done), by repeat (first | exact Drawn0.refl _ | apply Drawn0.step)⟩
 ·
  rw [if_neg c3] at H
  have c3b0 : ((l0.length : Int) == (l1.length : Int)) = false := beq_eq_false_iff_ne.mpr c3
  have c3b1 : ((l0.length : Int) != (l1.length : Int)) = true := bne_iff_ne.mpr c3
  have c3b2 : (l0.length == l1.length) = false := by first | simpa using c3 | (simp at c3 ⊢; omega)
  obtain rfl := Option.some.inj H
  go_enter Tryd.func13, Tryd.ntmps13
  go_wp2
  repeat (go_quiet (fail); try go_wp2)
  go_ret
  exact ⟨by first | rfl | (simp; done) | (simp [*]; done), by repeat (first | exact Drawn0.refl _ | apply Drawn0.step)⟩

/-! ### journal_Trim: function 14 -/
def journal_Trim.f (k : Nat) (l0 : List Int) : Option (List Int) := (journal_read.f k l0).bind fun bt318 => ((some (([] : List Int) : List Int)).bind fun y324 => (if 0 ≤ bt318.2.1 then (if bt318.2.1 ≤ (l0.length : Int) then (if y324.length + (l0.take (bt318.2.1 : Int).toNat).length < 140737488355328 then (some (y324 ++ (l0.take (bt318.2.1 : Int).toNat))) else (none)) else (none)) else (none)))
theorem journal_Trim.mono : ∀ a0 k, LeO (journal_Trim.f k a0) (journal_Trim.f (k + 1) a0) := by
 intro a0 k
 unfold journal_Trim.f
 repeat' first
   | (with_reducible exact journal_read.mono _ _)
   | (with_reducible exact LeO.refl _)
   | (with_reducible exact LeO.none _)
   | (with_reducible refine LeO.ite ?_ ?_)
   | (with_reducible refine LeO.bind ?_ (fun _ => ?_))
   | exact journal_read.mono _ _
   | exact LeO.none _
   | refine LeO.ite ?_ ?_
   | refine LeO.bind ?_ (fun _ => ?_)
set_option maxHeartbeats 8000000 in
set_option maxRecDepth 100000 in
theorem journal_Trim.calls (k : Nat) (A0 : Option Addr) (c0 : Nat) (l0 : List Int) (r : List Int) (w : World) (hr0 : Kd.C (Kd.int .u8) w A0 l0.length l0) (hc0 : l0.length ≤ c0) (h : journal_Trim.f k l0 = some r) :
  Calls Tryd.prog 14 #[.slice A0 l0.length c0] w fun e w' => ∃ v0_ : Value, e = .returned (v0_) ∧ Kd.R (Kd.int .u8) 5 w' w.heap.size (fun _ => True) v0_ r ∧ Below w.heap.size w w' := by
 have HR0 := am hr0
 have HC0 := am hc0
 clear hr0 hc0
 have HB := am (Below.refl w.heap.size w)
 have H : ((journal_read.f k l0).bind fun bt318 => ((some (([] : List Int) : List Int)).bind fun y324 => (if 0 ≤ bt318.2.1 then (if bt318.2.1 ≤ (l0.length : Int) then (if y324.length + (l0.take (bt318.2.1 : Int).toNat).length < 140737488355328 then (some (y324 ++ (l0.take (bt318.2.1 : Int).toNat))) else (none)) else (none)) else (none)))) = some r := h
 clear h
 replace H := Option.bind_eq_some_iff.mp H
 obtain ⟨⟨t318, t319, t320, t321⟩, A20, H⟩ := H
 replace H : ((some (([] : List Int) : List Int)).bind fun y324 => (if 0 ≤ t319 then (if t319 ≤ (l0.length : Int) then (if y324.length + (l0.take (t319 : Int).toNat).length < 140737488355328 then (some (y324 ++ (l0.take (t319 : Int).toNat))) else (none)) else (none)) else (none))) = some r := H
 have A2 := am A20
 clear A20
 obtain ⟨y324, hy324⟩ : ∃ y_ : List Int, y_ = (([] : List Int)) := ⟨_, rfl⟩
 replace H : (if 0 ≤ t319 then (if t319 ≤ (l0.length : Int) then (if y324.length + (l0.take (t319 : Int).toNat).length < 140737488355328 then (some (y324 ++ (l0.take (t319 : Int).toNat))) else (none)) else (none)) else (none)) = some r := by first | (rw [hy324]; with_reducible exact H) | (have H2_ := (Option.bind_some _ _).symm.trans H; rw [hy324]; with_reducible exact H2_) | (have H2_ := (Option.bind_some _ _).symm.trans H; with_reducible exact H2_) | with_reducible exact H | (rw [hy324]; exact H) | exact H
 have Ny324 := am hy324
 clear hy324
 replace H := it_ H
 obtain ⟨c3, H⟩ := H
 have c3b0 := eq_true c3
 have c3b1 : decide (0 ≤ t319) = true := decide_eq_true c3
 clear c3
 replace H := it_ H
 obtain ⟨c4, H⟩ := H
 have c4b0 := eq_true c4
 have c4b1 : decide (t319 ≤ (l0.length : Int)) = true := decide_eq_true c4
 clear c4
 replace H := it_ H
 obtain ⟨c5, H⟩ := H
 have LMc5 := am c5
 clear c5
 obtain ⟨y328, hy328⟩ : ∃ y_ : List Int, y_ = (y324 ++ (l0.take (t319 : Int).toNat)) := ⟨_, rfl⟩
 replace H : (some y328) = some r := by first | (rw [hy328]; with_reducible exact H) | (have H2_ := (Option.bind_some _ _).symm.trans H; rw [hy328]; with_reducible exact H2_) | (have H2_ := (Option.bind_some _ _).symm.trans H; with_reducible exact H2_) | with_reducible exact H | (rw [hy328]; exact H) | exact H
 have Ny328 := am hy328
 clear hy328
 obtain rfl := Option.some.inj H
 go_enter Tryd.func14, Tryd.ntmps14
 go_wp2_with (first | ((with_reducible refine gate_callee (f := 31) rfl ?_); refine goesL_ (some 9) rfl rfl Tryd.func31 (by kernel_rfl) rfl #[.slice A0 l0.length c0] rfl lz ?_; (with_reducible refine (journal_read.calls k _ _ l0 t318 t319 t320 t321 _ ?side1 ?side2 A2.out).mono ?_); (case side1 => repeat (first | exact HR0.out | (with_reducible refine Kd.C_alloc ?_ _) | (with_reducible refine Kd.C_drewN ?_ _) | (with_reducible refine Kd.C_drew ?_))); (case side2 => exact HC0.out); rintro e w6 ⟨v322, vE_, rfl, hE_, ho0, hb⟩; have PE_ := am hE_; clear hE_; refine ⟨_, rfl, ?_⟩; have HO323 := am (Kd.R_lower ho0 (below_size (hz HB.out))); replace HB := am (below_step (hz HB.out) hb); (try clear hb); (try clear hk); (try clear hi); (try clear ho0); (try simp only [errW_none, errW_some])) | ((with_reducible refine gate_dst (N := 14) rfl ?_); refine Kd.R_lit (Kd.int .u8) _ 5 ?hg (N := 14) ?hd (xs := ([] : List Int)) (inner := []) (ok := fun _ => True) (okp := fun _ => True) ?hr ?hp (fun _ hk => hk) trivial (Below.refl _ _) (Nat.le_refl _) (by simp) ?_; (case hd => rfl); (case hg => rfl); (case hr => exact gz); (case hp => exact (Reps.none _ _)); intro v325 w7 ho8 hb hg_ hnew_; clear hg_ hnew_; (first | rw [← Ny324.out] at ho8 | (simp only [Int.reduceToNat] at ho8; rw [← Ny324.out] at ho8)); replace HO323 := am (Kd.R_below (rz HO323.out) hb); have HO326 := am (Kd.R_lower ho8 (below_size (hz HB.out))); replace HB := am (below_step (hz HB.out) hb); clear hb ho8; obtain ⟨i09, hi09, _, hsz9, _⟩ := info_parts info5; obtain ⟨hcut9, hA9, hC9⟩ := print_take_of (P := Tryd.prog) (Value.int .u8) 0 24 5 .i64 Tryd.underlying24 hi09 hsz9 A0 c0 l0 t319 (of_decide_eq_true az) (of_decide_eq_true az) HC0.out; have HR327 := am (Kd.C_of_reads (h1 := fun _ => rfl) (hA9 _ (Kd.reads_of_C HR0.out))); have HC327 := am hC9; clear hA9 hC9 hi09 hsz9) | ((with_reducible refine gate_builtin (b := .append) (xs := #[.tmp 14, .tmp 17]) rfl ?_); at_builtin; refine Kd.R_append_rows (Kd.int .u8) (w0 := w) w.heap.size rfl (.tmp 14) (.tmp 17) 24 5 (.int .u8 0) 1 rfl Tryd.underlying24 info5 rfl (by decide) (by omega) v325 y324 (l0.take (t319 : Int).toNat) _ _ _ (fun _ => True) (fun _ => False) rfl rfl ?aO ?aR (fun _ _ h => h) (fun _ h => h.elim) ?aF ?aB ?aS ?aL ?_; (case aR => first | (have hq_ := Kd.C_below HR327.out HB.out; rw [show (l0.take (t319 : Int).toNat).length = t319.toNat from (by rw [List.length_take]; have h_ : (t319 : Int) ≤ (l0.length : Int) := of_decide_eq_true az; omega)] at hq_; exact hq_) | (rw [← show (l0.take (t319 : Int).toNat).length = t319.toNat from (by rw [List.length_take]; have h_ : (t319 : Int) ≤ (l0.length : Int) := of_decide_eq_true az; omega)]; exact cz (Kd.C_below HR327.out HB.out)) | (exact cz (Kd.C_below HR327.out HB.out))); (case aB => exact (hz HB.out)); (case aF => exact (fun _ _ => trivial)); (case aO => exact (rz HO326.out)); (case aS => exact (below_size (hz HB.out))); (case aL => have := LMc5.out; have hlx_ := (show (l0.take (t319 : Int).toNat).length = t319.toNat from (by rw [List.length_take]; have h_ : (t319 : Int) ≤ (l0.length : Int) := of_decide_eq_true az; omega)); omega); intro v329 w10 ho hb hg hat; rw [← Ny328.out] at ho; replace HO323 := am (Kd.R_over' (rz HO323.out) (Kd.R_typed (rz HO326.out)) (by decide) hg); replace HB := am (hb); have HO330 := am (ho); clear HO326; clear ho hb hg hat))
 go_ret
 exact ⟨_, by first | rfl | (simp [errW_none, errW_some] <;> rfl) | (simp [*, errW_none, errW_some] <;> rfl), by (with_reducible repeat (first | apply Kd.R_alloc | apply Kd.R_drewN | apply Kd.R_drew)); exact HO330.out, hz HB.out⟩

/-! ### journal_Count: function 15 -/
def journal_Count.f (k : Nat) (l0 : List Int) : Option (Int) := (journal_read.f k l0).bind fun bt331 => (some (bt331.1.length : Int))
theorem journal_Count.mono : ∀ a0 k, LeO (journal_Count.f k a0) (journal_Count.f (k + 1) a0) := by
 intro a0 k
 unfold journal_Count.f
 repeat' first
   | (with_reducible exact journal_read.mono _ _)
   | (with_reducible exact LeO.refl _)
   | (with_reducible exact LeO.none _)
   | (with_reducible refine LeO.ite ?_ ?_)
   | (with_reducible refine LeO.bind ?_ (fun _ => ?_))
   | exact journal_read.mono _ _
   | exact LeO.none _
   | refine LeO.ite ?_ ?_
   | refine LeO.bind ?_ (fun _ => ?_)
set_option maxHeartbeats 8000000 in
set_option maxRecDepth 100000 in
theorem journal_Count.calls (k : Nat) (A0 : Option Addr) (c0 : Nat) (l0 : List Int) (r : Int) (w : World) (hr0 : Kd.C (Kd.int .u8) w A0 l0.length l0) (hc0 : l0.length ≤ c0) (h : journal_Count.f k l0 = some r) :
  Calls Tryd.prog 15 #[.slice A0 l0.length c0] w fun e w' => e = .returned (.int .i64 r) ∧ Below w.heap.size w w' := by
 have HR0 := am hr0
 have HC0 := am hc0
 clear hr0 hc0
 have HB := am (Below.refl w.heap.size w)
 have H : ((journal_read.f k l0).bind fun bt331 => (some (bt331.1.length : Int))) = some r := h
 clear h
 replace H := Option.bind_eq_some_iff.mp H
 obtain ⟨⟨t331, t332, t333, t334⟩, A20, H⟩ := H
 replace H : (some (t331.length : Int)) = some r := H
 have A2 := am A20
 clear A20
 obtain rfl := Option.some.inj H
 go_enter Tryd.func15, Tryd.ntmps15
 go_wp2_with (first | ((with_reducible refine gate_callee (f := 31) rfl ?_); refine goesL_ (some 9) rfl rfl Tryd.func31 (by kernel_rfl) rfl #[.slice A0 l0.length c0] rfl lz ?_; (with_reducible refine (journal_read.calls k _ _ l0 t331 t332 t333 t334 _ ?side1 ?side2 A2.out).mono ?_); (case side1 => repeat (first | exact HR0.out | (with_reducible refine Kd.C_alloc ?_ _) | (with_reducible refine Kd.C_drewN ?_ _) | (with_reducible refine Kd.C_drew ?_))); (case side2 => exact HC0.out); rintro e w3 ⟨v335, vE_, rfl, hE_, ho0, hb⟩; have PE_ := am hE_; clear hE_; refine ⟨_, rfl, ?_⟩; have HO336 := am (Kd.R_lower ho0 (below_size (hz HB.out))); replace HB := am (below_step (hz HB.out) hb); (try clear hb); (try clear hk); (try clear hi); (try clear ho0); (try simp only [errW_none, errW_some]); obtain ⟨Ao4, co4, eo4⟩ := Kd.R_slice HO336.out; subst eo4))
 go_ret
 exact ⟨ez, hz HB.out⟩

/-! ### journal_Last: function 18 -/
def journal_Last.f (k : Nat) (l0 : List Int) : Option (Int × Int) := (journal_read.f k l0).bind fun bt337 => ((journal_code.f bt337.2.2.2).bind fun t343 => (if t343 = 0 then (some (bt337.2.2.1, 0)) else (some (0, t343))))
theorem journal_Last.mono : ∀ a0 k, LeO (journal_Last.f k a0) (journal_Last.f (k + 1) a0) := by
 intro a0 k
 unfold journal_Last.f
 repeat' first
   | (with_reducible exact journal_read.mono _ _)
   | (with_reducible exact LeO.refl _)
   | (with_reducible exact LeO.none _)
   | (with_reducible refine LeO.ite ?_ ?_)
   | (with_reducible refine LeO.bind ?_ (fun _ => ?_))
   | exact journal_read.mono _ _
   | exact LeO.none _
   | refine LeO.ite ?_ ?_
   | refine LeO.bind ?_ (fun _ => ?_)
set_option maxHeartbeats 8000000 in
set_option maxRecDepth 100000 in
theorem journal_Last.calls (k : Nat) (A0 : Option Addr) (c0 : Nat) (l0 : List Int) (r1 : Int) (r2 : Int) (w : World) (hG : GlE w) (hr0 : Kd.C (Kd.int .u8) w A0 l0.length l0) (hc0 : l0.length ≤ c0) (h : journal_Last.f k l0 = some (r1, r2)) :
  Calls Tryd.prog 18 #[.slice A0 l0.length c0] w fun e w' => e = .returned (.tuple #[.int .u64 r1, .int .i64 r2]) ∧ Below w.heap.size w w' := by
 have HR0 := am hr0
 have HC0 := am hc0
 clear hr0 hc0
 have HG_ := am hG
 clear hG
 have HB := am (Below.refl w.heap.size w)
 have H : ((journal_read.f k l0).bind fun bt337 => ((journal_code.f bt337.2.2.2).bind fun t343 => (if t343 = 0 then (some (bt337.2.2.1, 0)) else (some (0, t343))))) = some (r1, r2) := h
 clear h
 replace H := Option.bind_eq_some_iff.mp H
 obtain ⟨⟨t337, t338, t339, t340⟩, A20, H⟩ := H
 replace H : ((journal_code.f t340).bind fun t343 => (if t343 = 0 then (some (t339, 0)) else (some (0, t343)))) = some (r1, r2) := H
 have A2 := am A20
 clear A20
 replace H := Option.bind_eq_some_iff.mp H
 obtain ⟨t343, A30, H⟩ := H
 replace H : (if t343 = 0 then (some (t339, 0)) else (some (0, t343))) = some (r1, r2) := H
 have A3 := am A30
 clear A30
 by_cases c4 : t343 = 0
 ·
  rw [if_pos c4] at H
  have c4b0 : (t343 == 0) = true := beq_iff_eq.mpr c4
  have c4b1 : (t343 != 0) = false := bne_eq_false_iff_eq.mpr c4
  clear c4
  simp only [Option.some.injEq, Prod.mk.injEq] at H
  obtain ⟨rfl, rfl⟩ := H
  go_enter Tryd.func18, Tryd.ntmps18
  go_wp2_with (first | ((with_reducible refine gate_callee (f := 31) rfl ?_); refine goesL_ (some 11) rfl rfl Tryd.func31 (by kernel_rfl) rfl #[.slice A0 l0.length c0] rfl lz ?_; (with_reducible refine (journal_read.calls k _ _ l0 t337 t338 t339 t340 _ ?side1 ?side2 A2.out).mono ?_); (case side1 => repeat (first | exact HR0.out | (with_reducible refine Kd.C_alloc ?_ _) | (with_reducible refine Kd.C_drewN ?_ _) | (with_reducible refine Kd.C_drew ?_))); (case side2 => exact HC0.out); rintro e w5 ⟨v341, vE_, rfl, hE_, ho0, hb⟩; have PE_ := am hE_; clear hE_; refine ⟨_, rfl, ?_⟩; have HO342 := am (Kd.R_lower ho0 (below_size (hz HB.out))); replace HB := am (below_step (hz HB.out) hb); (try clear hb); (try clear hk); (try clear hi); (try clear ho0); (try simp only [errW_none, errW_some]); have CA3 := fun W hG_ hE_ => journal_code.calls t340 vE_ t343 W hG_ hE_ A3.out) | (go_at_call 32; (with_reducible refine (CA3 _ ?sideG ?sideE).mono ?_); (case sideG => exact gle HG_.out (hz HB.out)); (case sideE => exact perr_below PE_.out (hz (Below.refl _ _))); rintro e w6 ⟨rfl, hb⟩; replace HO342 := am (Kd.R_below (rz HO342.out) hb); replace HB := am (below_step (hz HB.out) hb); (try clear hb); (try clear hk); (try clear hi)))
  go_ret2
  exact ⟨ez, hz HB.out⟩
 ·
  rw [if_neg c4] at H
  have c4b0 : (t343 == 0) = false := beq_eq_false_iff_ne.mpr c4
  have c4b1 : (t343 != 0) = true := bne_iff_ne.mpr c4
  simp only [Option.some.injEq, Prod.mk.injEq] at H
  obtain ⟨rfl, rfl⟩ := H
  go_enter Tryd.func18, Tryd.ntmps18
  go_wp2_with (first | ((with_reducible refine gate_callee (f := 31) rfl ?_); refine goesL_ (some 11) rfl rfl Tryd.func31 (by kernel_rfl) rfl #[.slice A0 l0.length c0] rfl lz ?_; (with_reducible refine (journal_read.calls k _ _ l0 t337 t338 t339 t340 _ ?side1 ?side2 A2.out).mono ?_); (case side1 => repeat (first | exact HR0.out | (with_reducible refine Kd.C_alloc ?_ _) | (with_reducible refine Kd.C_drewN ?_ _) | (with_reducible refine Kd.C_drew ?_))); (case side2 => exact HC0.out); rintro e w7 ⟨v341, vE_, rfl, hE_, ho0, hb⟩; have PE_ := am hE_; clear hE_; refine ⟨_, rfl, ?_⟩; have HO342 := am (Kd.R_lower ho0 (below_size (hz HB.out))); replace HB := am (below_step (hz HB.out) hb); (try clear hb); (try clear hk); (try clear hi); (try clear ho0); (try simp only [errW_none, errW_some]); have CA3 := fun W hG_ hE_ => journal_code.calls t340 vE_ t343 W hG_ hE_ A3.out) | (go_at_call 32; (with_reducible refine (CA3 _ ?sideG ?sideE).mono ?_); (case sideG => exact gle HG_.out (hz HB.out)); (case sideE => exact perr_below PE_.out (hz (Below.refl _ _))); rintro e w8 ⟨rfl, hb⟩; replace HO342 := am (Kd.R_below (rz HO342.out) hb); replace HB := am (below_step (hz HB.out) hb); (try clear hb); (try clear hk); (try clear hi)))
  go_ret2
  exact ⟨ez, hz HB.out⟩

end Go.Proofs.YteeggfnailpcpaaDoor.Q
