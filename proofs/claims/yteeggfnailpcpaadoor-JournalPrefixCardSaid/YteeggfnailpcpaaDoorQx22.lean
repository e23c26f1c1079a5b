/- Made by wip/myprint.py of this session (it drives the kit's printer): what the calls of the Go functions come to, as plain Lean functions, and the row of a law over them; without conditions. -/
import Derived.Test.YteeggfnailpcpaaDoorQx0
import Derived.Test.YteeggfnailpcpaaDoorQx10
import Derived.Test.YteeggfnailpcpaaDoorQx12
import Derived.Test.YteeggfnailpcpaaDoorQx13
import Derived.Test.YteeggfnailpcpaaDoorQx21
namespace Go.Proofs.YteeggfnailpcpaaDoor.Q
open Go.RowKit Go.Proofs.YteeggfnailpcpaaDoorW.PrintWords Go.Proofs.YteeggfnailpcpaaDoorW.PrintLast Go.Proofs.YteeggfnailpcpaaDoorW.PrintMore
attribute [local go_sem] max2_int min2_int max_two min_two max_three min_three max_four min_four   -- for this text's walks alone
set_option linter.unusedVariables false
set_option linter.unusedSimpArgs false

/-! ### examboardlaw49_JournalPrefix: function 3 -/
mutual
def examboardlaw49_JournalPrefix.j0 : Nat → List Int → List (S43) → Int → Int → Int → Option (Bool)
 | 0, _, _, _, _, _ => none
 | k + 1, x5, x6, x9, x10, x11 => if 0 ≤ x9 then (if x9 ≤ (x5.length : Int) then ((journal_Read.f k (x5.take (x9 : Int).toNat)).bind fun bt402 => (if 0 ≤ x10 then (if x10 ≤ (x6.length : Int) then ((examboardlaw49_same.f k bt402.1 (x6.take (x10 : Int).toNat)).bind fun t412 => (if t412 = true then (if bt402.2.1 = x11 then (if ((bt402.2.2 == 0) != (x9 == x11)) = true then (none) else (if bt402.2.2 = 0 then (examboardlaw49_JournalPrefix.j1 k x5 x9 x10 x11 false) else (examboardlaw49_JournalPrefix.j1 k x5 x9 x10 x11 (bt402.2.2 != 4)))) else (none)) else (none))) else (none)) else (none))) else (none)) else (none)
def examboardlaw49_JournalPrefix.j1 : Nat → List Int → Int → Int → Int → Bool → Option (Bool)
 | 0, _, _, _, _, _ => none
 | k + 1, x5, x9, x10, x11, x74 => if x74 = true then (none) else (if 0 ≤ x9 then (if x9 ≤ (x5.length : Int) then ((journal_Trim.f k (x5.take (x9 : Int).toNat)).bind fun t418 => (if 0 ≤ x11 then (if x11 ≤ (x5.length : Int) then ((examboardlaw49_equal.f k t418 (x5.take (x11 : Int).toNat)).bind fun t426 => (if t426 = true then ((journal_Count.f k (x5.take (x9 : Int).toNat)).bind fun t432 => (if t432 = x10 then ((examboardlaw49_awake.f k).bind fun t433 => (some t433)) else (none))) else (none))) else (none)) else (none))) else (none)) else (none))
end
def examboardlaw49_JournalPrefix.f (k : Nat) (l0 : List (S43)) (a1 : Int) : Option (Bool) := (examboardlaw49_written.f k l0).bind fun bt385 => (if bt385.2.2.2 = true then (if (wrap64 ((bt385.1.length : Int) + 1)) = 0 then (none) else ((examboardlaw49_complete.f k bt385.2.2.1 (Int.tmod (wrap64 (a1)) (wrap64 ((bt385.1.length : Int) + 1)))).bind fun t395 => (if t395 > 0 then (if 0 ≤ (wrap64 (t395 - 1)) then (if (wrap64 (t395 - 1)) < (bt385.2.2.1.length : Int) then (examboardlaw49_JournalPrefix.j0 k bt385.1 bt385.2.1 (Int.tmod (wrap64 (a1)) (wrap64 ((bt385.1.length : Int) + 1))) t395 (rd bt385.2.2.1 (wrap64 (t395 - 1)))) else (none)) else (none)) else (examboardlaw49_JournalPrefix.j0 k bt385.1 bt385.2.1 (Int.tmod (wrap64 (a1)) (wrap64 ((bt385.1.length : Int) + 1))) t395 0)))) else (none))
theorem examboardlaw49_JournalPrefix.mono_l : ∀ k, (∀ y0 y1 y2 y3 y4, LeO (examboardlaw49_JournalPrefix.j0 k y0 y1 y2 y3 y4) (examboardlaw49_JournalPrefix.j0 (k + 1) y0 y1 y2 y3 y4)) ∧ (∀ y0 y1 y2 y3 y4, LeO (examboardlaw49_JournalPrefix.j1 k y0 y1 y2 y3 y4) (examboardlaw49_JournalPrefix.j1 (k + 1) y0 y1 y2 y3 y4))
 | 0 => ⟨fun _ _ _ _ _ r h => by simp [examboardlaw49_JournalPrefix.j0] at h, fun _ _ _ _ _ r h => by simp [examboardlaw49_JournalPrefix.j1] at h⟩
 | k + 1 => by
  obtain ⟨ih0, ih1⟩ := examboardlaw49_JournalPrefix.mono_l k
  refine ⟨?_, ?_⟩
  ·
   intro y0 y1 y2 y3 y4
   unfold examboardlaw49_JournalPrefix.j0
   repeat' first
   | (with_reducible exact ih0 _ _ _ _ _)
   | (with_reducible exact ih1 _ _ _ _ _)
   | (with_reducible exact examboardlaw49_awake.mono _)
   | (with_reducible exact examboardlaw49_complete.mono _ _ _)
   | (with_reducible exact examboardlaw49_equal.mono _ _ _)
   | (with_reducible exact examboardlaw49_same.mono _ _ _)
   | (with_reducible exact examboardlaw49_written.mono _ _)
   | (with_reducible exact journal_Count.mono _ _)
   | (with_reducible exact journal_Read.mono _ _)
   | (with_reducible exact journal_Trim.mono _ _)
   | (with_reducible exact LeO.refl _)
   | (with_reducible exact LeO.none _)
   | (with_reducible refine LeO.ite ?_ ?_)
   | (with_reducible refine LeO.bind ?_ (fun _ => ?_))
   | exact ih0 _ _ _ _ _
   | exact ih1 _ _ _ _ _
   | exact examboardlaw49_awake.mono _
   | exact examboardlaw49_complete.mono _ _ _
   | exact examboardlaw49_equal.mono _ _ _
   | exact examboardlaw49_same.mono _ _ _
   | exact examboardlaw49_written.mono _ _
   | exact journal_Count.mono _ _
   | exact journal_Read.mono _ _
   | exact journal_Trim.mono _ _
   | exact LeO.none _
   | refine LeO.ite ?_ ?_
   | refine LeO.bind ?_ (fun _ => ?_)
  ·
   intro y0 y1 y2 y3 y4
   unfold examboardlaw49_JournalPrefix.j1
   repeat' first
   | (with_reducible exact ih0 _ _ _ _ _)
   | (with_reducible exact ih1 _ _ _ _ _)
   | (with_reducible exact examboardlaw49_awake.mono _)
   | (with_reducible exact examboardlaw49_complete.mono _ _ _)
   | (with_reducible exact examboardlaw49_equal.mono _ _ _)
   | (with_reducible exact examboardlaw49_same.mono _ _ _)
   | (with_reducible exact examboardlaw49_written.mono _ _)
   | (with_reducible exact journal_Count.mono _ _)
   | (with_reducible exact journal_Read.mono _ _)
   | (with_reducible exact journal_Trim.mono _ _)
   | (with_reducible exact LeO.refl _)
   | (with_reducible exact LeO.none _)
   | (with_reducible refine LeO.ite ?_ ?_)
   | (with_reducible refine LeO.bind ?_ (fun _ => ?_))
   | exact ih0 _ _ _ _ _
   | exact ih1 _ _ _ _ _
   | exact examboardlaw49_awake.mono _
   | exact examboardlaw49_complete.mono _ _ _
   | exact examboardlaw49_equal.mono _ _ _
   | exact examboardlaw49_same.mono _ _ _
   | exact examboardlaw49_written.mono _ _
   | exact journal_Count.mono _ _
   | exact journal_Read.mono _ _
   | exact journal_Trim.mono _ _
   | exact LeO.none _
   | refine LeO.ite ?_ ?_
   | refine LeO.bind ?_ (fun _ => ?_)
theorem examboardlaw49_JournalPrefix.mono : ∀ a0 a1 k, LeO (examboardlaw49_JournalPrefix.f k a0 a1) (examboardlaw49_JournalPrefix.f (k + 1) a0 a1) := by
 intro a0 a1 k
 obtain ⟨ih0, ih1⟩ := examboardlaw49_JournalPrefix.mono_l k
 unfold examboardlaw49_JournalPrefix.f
 repeat' first
   | (with_reducible exact ih0 _ _ _ _ _)
   | (with_reducible exact ih1 _ _ _ _ _)
   | (with_reducible exact examboardlaw49_awake.mono _)
   | (with_reducible exact examboardlaw49_complete.mono _ _ _)
   | (with_reducible exact examboardlaw49_equal.mono _ _ _)
   | (with_reducible exact examboardlaw49_same.mono _ _ _)
   | (with_reducible exact examboardlaw49_written.mono _ _)
   | (with_reducible exact journal_Count.mono _ _)
   | (with_reducible exact journal_Read.mono _ _)
   | (with_reducible exact journal_Trim.mono _ _)
   | (with_reducible exact LeO.refl _)
   | (with_reducible exact LeO.none _)
   | (with_reducible refine LeO.ite ?_ ?_)
   | (with_reducible refine LeO.bind ?_ (fun _ => ?_))
   | exact ih0 _ _ _ _ _
   | exact ih1 _ _ _ _ _
   | exact examboardlaw49_awake.mono _
   | exact examboardlaw49_complete.mono _ _ _
   | exact examboardlaw49_equal.mono _ _ _
   | exact examboardlaw49_same.mono _ _ _
   | exact examboardlaw49_written.mono _ _
   | exact journal_Count.mono _ _
   | exact journal_Read.mono _ _
   | exact journal_Trim.mono _ _
   | exact LeO.none _
   | refine LeO.ite ?_ ?_
   | refine LeO.bind ?_ (fun _ => ?_)
def examboardlaw49_JournalPrefix.T12 : Bool × List (List Nat × List Nat) := (true, [([], []), ([], []), ([0, 1], [0, 1]), ([2], [2]), ([], []), ([], []), ([4, 5], [4, 5]), ([3, 6, 3], [3, 6]), ([7, 7], [7]), ([8], [8]), ([8], [8]), ([9, 10, 8], [8, 9, 10]), ([11, 8, 8], [8, 11]), ([8], [8]), ([12, 13, 8], [8, 12, 13]), ([8, 14], [8, 14]), ([15, 12], [15]), ([16, 16], [16]), ([16, 17], [16, 17]), ([18, 17, 0, 1, 2, 3, 4, 5, 6, 7, 8, 9, 10, 11, 12, 13, 14, 15, 16, 17, 18], [18])])
def examboardlaw49_JournalPrefix.B12 : List Nat := [0, 0, 3, 7, 0, 0, 48, 127, 255, 511, 511, 2047, 4095, 511, 16383, 32767, 65535, 131071, 262143, 524287]
theorem examboardlaw49_JournalPrefix.tab12 : rtab .any (opsOf Tryd.f3 12) = examboardlaw49_JournalPrefix.T12 := by kernel_rfl
theorem examboardlaw49_JournalPrefix.bits12 : waitsOk examboardlaw49_JournalPrefix.T12.2 examboardlaw49_JournalPrefix.B12 = true := by kernel_rfl
set_option maxHeartbeats 8000000 in
set_option maxRecDepth 100000 in
theorem examboardlaw49_JournalPrefix.calls (k : Nat) (A0 : Option Addr) (c0 : Nat) (l0 : List (S43)) (a1 : Int) (r : Bool) (w : World) (hG : GlE w) (hr0 : Kd.C k43 w A0 l0.length l0) (hc0 : l0.length ≤ c0) (h : examboardlaw49_JournalPrefix.f k l0 a1 = some r) :
  Calls Tryd.prog 3 #[.slice A0 l0.length c0, .int .u16 a1] w fun e w' => e = .returned (.bool r) ∧ Below w.heap.size w w' := by
 have HR0 := am hr0
 have HC0 := am hc0
 clear hr0 hc0
 have HG_ := am hG
 clear hG
 have HB := am (Below.refl w.heap.size w)
 have H : ((examboardlaw49_written.f k l0).bind fun bt385 => (if bt385.2.2.2 = true then (if (wrap64 ((bt385.1.length : Int) + 1)) = 0 then (none) else ((examboardlaw49_complete.f k bt385.2.2.1 (Int.tmod (wrap64 (a1)) (wrap64 ((bt385.1.length : Int) + 1)))).bind fun t395 => (if t395 > 0 then (if 0 ≤ (wrap64 (t395 - 1)) then (if (wrap64 (t395 - 1)) < (bt385.2.2.1.length : Int) then (examboardlaw49_JournalPrefix.j0 k bt385.1 bt385.2.1 (Int.tmod (wrap64 (a1)) (wrap64 ((bt385.1.length : Int) + 1))) t395 (rd bt385.2.2.1 (wrap64 (t395 - 1)))) else (none)) else (none)) else (examboardlaw49_JournalPrefix.j0 k bt385.1 bt385.2.1 (Int.tmod (wrap64 (a1)) (wrap64 ((bt385.1.length : Int) + 1))) t395 0)))) else (none))) = some r := h
 clear h
 replace H := Option.bind_eq_some_iff.mp H
 obtain ⟨⟨t385, t388, t391, t394⟩, A30, H⟩ := H
 replace H : (if t394 = true then (if (wrap64 ((t385.length : Int) + 1)) = 0 then (none) else ((examboardlaw49_complete.f k t391 (Int.tmod (wrap64 (a1)) (wrap64 ((t385.length : Int) + 1)))).bind fun t395 => (if t395 > 0 then (if 0 ≤ (wrap64 (t395 - 1)) then (if (wrap64 (t395 - 1)) < (t391.length : Int) then (examboardlaw49_JournalPrefix.j0 k t385 t388 (Int.tmod (wrap64 (a1)) (wrap64 ((t385.length : Int) + 1))) t395 (rd t391 (wrap64 (t395 - 1)))) else (none)) else (none)) else (examboardlaw49_JournalPrefix.j0 k t385 t388 (Int.tmod (wrap64 (a1)) (wrap64 ((t385.length : Int) + 1))) t395 0)))) else (none)) = some r := H
 have A3 := am A30
 clear A30
 by_cases c4 : t394 = true
 ·
  subst c4
  have H1 : (if (wrap64 ((t385.length : Int) + 1)) = 0 then (none) else ((examboardlaw49_complete.f k t391 (Int.tmod (wrap64 (a1)) (wrap64 ((t385.length : Int) + 1)))).bind fun t395 => (if t395 > 0 then (if 0 ≤ (wrap64 (t395 - 1)) then (if (wrap64 (t395 - 1)) < (t391.length : Int) then (examboardlaw49_JournalPrefix.j0 k t385 t388 (Int.tmod (wrap64 (a1)) (wrap64 ((t385.length : Int) + 1))) t395 (rd t391 (wrap64 (t395 - 1)))) else (none)) else (none)) else (examboardlaw49_JournalPrefix.j0 k t385 t388 (Int.tmod (wrap64 (a1)) (wrap64 ((t385.length : Int) + 1))) t395 0)))) = some r := by rw [if_pos rfl] at H; exact H
  clear H
  have H := H1
  clear H1
  replace H := ie_ H
  obtain ⟨c5, H⟩ := H
  have c5b0 : ((wrap64 ((t385.length : Int) + 1)) == 0) = false := beq_eq_false_iff_ne.mpr c5
  have c5b1 : ((wrap64 ((t385.length : Int) + 1)) != 0) = true := bne_iff_ne.mpr c5
  replace H := Option.bind_eq_some_iff.mp H
  obtain ⟨t395, A60, H⟩ := H
  replace H : (if t395 > 0 then (if 0 ≤ (wrap64 (t395 - 1)) then (if (wrap64 (t395 - 1)) < (t391.length : Int) then (examboardlaw49_JournalPrefix.j0 k t385 t388 (Int.tmod (wrap64 (a1)) (wrap64 ((t385.length : Int) + 1))) t395 (rd t391 (wrap64 (t395 - 1)))) else (none)) else (none)) else (examboardlaw49_JournalPrefix.j0 k t385 t388 (Int.tmod (wrap64 (a1)) (wrap64 ((t385.length : Int) + 1))) t395 0)) = some r := H
  have A6 := am A60
  clear A60
  have HC7 := am H
  clear H
  go_enter Tryd.func3, Tryd.ntmps3
  go_upto_if 34 with (first | ((with_reducible refine gate_callee (f := 9) rfl ?_); refine goesL_ (some 17) rfl rfl Tryd.func9 (by kernel_rfl) rfl #[.slice A0 l0.length c0] rfl lz ?_; (with_reducible refine (examboardlaw49_written.calls k (fun k_ => k_ < w.heap.size) _ _ l0 t385 t388 t391 true _ ?sideG ?side1 A3.out).mono ?_); (case sideG => exact gle HG_.out (hz HB.out)); (case side1 => exact Kd.V_mk HC0.out (Kd.F_below (Kd.C_F k43_heap HR0.out) (hz HB.out))); rintro e w8 ⟨v386, v389, v392, rfl, ho0, ho1, ho2, hb⟩; refine ⟨_, rfl, ?_⟩; have HO387 := am (Kd.R_lower (Kd.R_mono (ok' := fun k_ => True) ho0 (fun _ hk_ => trivial)) (below_size (hz HB.out))); have HO390 := am (Kd.N_lower (Kd.N_mono (ok' := fun k_ => some k_ ≠ (v386 : Value).ownBlock ∧ some k_ ≠ (v392 : Value).ownBlock) ho1 (fun k_ hk_ => ⟨hk_.2.1, hk_.2.2⟩)) (below_size (hz HB.out))); have HO393 := am (Kd.R_lower (Kd.R_mono (ok' := fun k_ => True) ho2 (fun _ hk_ => trivial)) (below_size (hz HB.out))); replace HB := am (below_step (hz HB.out) hb); (try clear hb); (try clear hk); (try clear hi); (try clear ho0); (try clear ho1); (try clear ho2); obtain ⟨Ao9, co9, eo9⟩ := Kd.R_slice HO387.out; subst eo9; obtain ⟨Ao10, co10, eo10⟩ := Kd.R_slice HO393.out; subst eo10) | ((with_reducible refine gate_callee (f := 10) rfl ?_); refine goesL_ (some 32) rfl rfl Tryd.func10 (by kernel_rfl) rfl #[.slice Ao10 t391.length co10, .int .i64 (Int.tmod (wrap64 (a1)) (wrap64 ((t385.length : Int) + 1)))] rfl lz ?_; (with_reducible refine (examboardlaw49_complete.calls k _ _ t391 (Int.tmod (wrap64 (a1)) (wrap64 ((t385.length : Int) + 1))) t395 _ ?side1 ?side2 A6.out).mono ?_); (case side1 => repeat (first | exact (Kd.R_reads' HO393.out).2.2 | (with_reducible refine Kd.C_alloc ?_ _) | (with_reducible refine Kd.C_drewN ?_ _) | (with_reducible refine Kd.C_drew ?_))); (case side2 => exact (Kd.R_reads' HO393.out).2.1); rintro e w' ⟨rfl, ⟨nd, rfl⟩⟩; refine ⟨_, rfl, ?_⟩))
  (try simp only [Act.put, List.setIfInBounds_toArray, List.set_cons_zero, List.set_cons_succ])
  go_cut [11] (fun v11 wc => ∃ (kq : Nat) (x11_6 : Int), v11 = .int .i64 x11_6 ∧ Aside0 (examboardlaw49_JournalPrefix.j0 kq t385 t388 (Int.tmod (wrap64 (a1)) (wrap64 ((t385.length : Int) + 1))) t395 x11_6 = some r) ∧ Aside0 (kq ≤ k) ∧ Aside0 (Kd.R (Kd.int .u8) 5 wc w.heap.size (fun _ => True) (.slice Ao9 t385.length co9) t385) ∧ Aside0 (Kd.N k43 43 wc w.heap.size (fun k_ => some k_ ≠ ((.slice Ao9 t385.length co9) : Value).ownBlock) v389 t388) ∧ Aside0 (Below w.heap.size w wc))
  case first =>
   have H := HC7.out
   clear HC7
   by_cases c11 : t395 > 0
   ·
    rw [if_pos c11] at H
    have c11b0 : decide (0 < t395) = true := decide_eq_true c11
    clear c11
    (first | rw [c11b0] | (simp only [i64_w, i32_w]; rw [c11b0]) | skip)
    obtain ⟨ji12, hji12⟩ : ∃ j_ : Int, (wrap64 (t395 - 1)) = j_ := ⟨_, rfl⟩
    replace H : (if 0 ≤ (ji12) then (if (ji12) < (t391.length : Int) then (examboardlaw49_JournalPrefix.j0 k t385 t388 (Int.tmod (wrap64 (a1)) (wrap64 ((t385.length : Int) + 1))) t395 (rd t391 (ji12))) else (none)) else (none)) = some r := by first | (rw [hji12] at H; exact H) | (simp only [hji12] at H ⊢; exact H)
    have hji12w : (IntKind.i64.wrap (t395 - 1)) = ji12 := (i64_w _).trans hji12
    replace H := it_ H
    obtain ⟨c13, H⟩ := H
    have c13b0 : decide (0 ≤ (ji12)) = true := decide_eq_true c13
    clear c13
    replace H := it_ H
    obtain ⟨c14, H⟩ := H
    have c14b0 : decide ((ji12) < (t391.length : Int)) = true := decide_eq_true c14
    clear c14
    have H' := am H
    clear H
    have p396 : 0 ≤ ((ji12) : Int) := of_decide_eq_true az
    have q396 : (ji12) < (t391.length : Int) := of_decide_eq_true az
    obtain ⟨ad396, e396, hx396_0⟩ := Kd.at_int (Kd.R_reads' HO393.out).2.2 (ji12) p396 q396
    cases e396
    replace p396 := eq_true p396
    replace q396 := eq_true q396
    go_wp2
    go_meet
    case rel => exact ⟨_, (rd t391 (ji12)), (by first | rfl | (simp; done) | (simp only [← hji12] <;> (first | rfl | simp)) | (simp [*]; done)), H', ⟨by first | omega | exact Nat.le_refl _⟩, ⟨by (with_reducible repeat (first | apply Kd.R_alloc | apply Kd.R_drewN | apply Kd.R_drew)); exact HO387.out⟩, ⟨by (with_reducible repeat (first | apply Kd.N_alloc | apply Kd.N_drewN | apply Kd.N_drew)); exact Kd.N_mono HO390.out (fun _ hk => hk.1)⟩, ⟨hz HB.out⟩⟩
   ·
    rw [if_neg c11] at H
    have c11b0 : decide (0 < t395) = false := decide_eq_false c11
    clear c11
    (first | rw [c11b0] | (simp only [i64_w, i32_w]; rw [c11b0]) | skip)
    have H' := am H
    clear H
    go_wp2
    go_meet
    case rel => exact ⟨_, (0), (by first | rfl | (simp; done) | (simp [*]; done)), H', ⟨by first | omega | exact Nat.le_refl _⟩, ⟨by (with_reducible repeat (first | apply Kd.R_alloc | apply Kd.R_drewN | apply Kd.R_drew)); exact HO387.out⟩, ⟨by (with_reducible repeat (first | apply Kd.N_alloc | apply Kd.N_drewN | apply Kd.N_drew)); exact Kd.N_mono HO390.out (fun _ hk => hk.1)⟩, ⟨hz HB.out⟩⟩
  case rest =>
   clear HC7
   try clear c1
   try clear p2
   try clear c3
   try clear p3
   try clear q3
   try clear hx3
   try clear c4
   try clear c5
   try clear c5b0
   try clear c5b1
   try clear p6
   try clear c9
   try clear c10
   try clear c11
   try clear c11b0
   try clear c13
   try clear c13b0
   try clear c14
   try clear c14b0
   try clear hx396_0
   try clear p396
   try clear q396
   obtain ⟨kq, x11_6, rfl, HA, HJ6, HO_5, HO_6, HB⟩ := hcut
   cases kq with
   | zero => exact absurd HA.out (by simp [examboardlaw49_JournalPrefix.j0])
   | succ kj6 =>
    have H := HA.out
    clear HA
    simp only [examboardlaw49_JournalPrefix.j0] at H
    obtain ⟨ji15, hji15⟩ : ∃ j_ : Int, (Int.tmod (wrap64 (a1)) (wrap64 ((t385.length : Int) + 1))) = j_ := ⟨_, rfl⟩
    replace H : (if 0 ≤ (ji15) then (if (ji15) ≤ (t385.length : Int) then ((journal_Read.f kj6 (t385.take ((ji15) : Int).toNat)).bind fun bt402 => (if 0 ≤ t395 then (if t395 ≤ (t388.length : Int) then ((examboardlaw49_same.f kj6 bt402.1 (t388.take (t395 : Int).toNat)).bind fun t412 => (if t412 = true then (if bt402.2.1 = x11_6 then (if ((bt402.2.2 == 0) != ((ji15) == x11_6)) = true then (none) else (if bt402.2.2 = 0 then (examboardlaw49_JournalPrefix.j1 kj6 t385 (ji15) t395 x11_6 false) else (examboardlaw49_JournalPrefix.j1 kj6 t385 (ji15) t395 x11_6 (bt402.2.2 != 4)))) else (none)) else (none))) else (none)) else (none))) else (none)) else (none)) = some r := by first | (rw [hji15] at H; exact H) | (simp only [hji15] at H ⊢; exact H)
    replace H := it_ H
    obtain ⟨c16, H⟩ := H
    have c16b0 := eq_true c16
    have c16b1 : decide (0 ≤ (ji15)) = true := decide_eq_true c16
    clear c16
    replace H := it_ H
    obtain ⟨c17, H⟩ := H
    have c17b0 := eq_true c17
    have c17b1 : decide ((ji15) ≤ (t385.length : Int)) = true := decide_eq_true c17
    clear c17
    obtain ⟨y397, hy397⟩ : ∃ y_ : List Int, y_ = (t385.take ((ji15) : Int).toNat) := ⟨_, rfl⟩
    replace H : ((journal_Read.f kj6 y397).bind fun bt402 => (if 0 ≤ t395 then (if t395 ≤ (t388.length : Int) then ((examboardlaw49_same.f kj6 bt402.1 (t388.take (t395 : Int).toNat)).bind fun t412 => (if t412 = true then (if bt402.2.1 = x11_6 then (if ((bt402.2.2 == 0) != ((ji15) == x11_6)) = true then (none) else (if bt402.2.2 = 0 then (examboardlaw49_JournalPrefix.j1 kj6 t385 (ji15) t395 x11_6 false) else (examboardlaw49_JournalPrefix.j1 kj6 t385 (ji15) t395 x11_6 (bt402.2.2 != 4)))) else (none)) else (none))) else (none)) else (none))) = some r := by first | (rw [hy397]; with_reducible exact H) | (have H2_ := (Option.bind_some _ _).symm.trans H; rw [hy397]; with_reducible exact H2_) | (have H2_ := (Option.bind_some _ _).symm.trans H; with_reducible exact H2_) | with_reducible exact H | (rw [hy397]; exact H) | exact H
    have Ny397 := am hy397
    clear hy397
    replace H := Option.bind_eq_some_iff.mp H
    obtain ⟨⟨t402, t403, t404⟩, A180, H⟩ := H
    replace H : (if 0 ≤ t395 then (if t395 ≤ (t388.length : Int) then ((examboardlaw49_same.f kj6 t402 (t388.take (t395 : Int).toNat)).bind fun t412 => (if t412 = true then (if t403 = x11_6 then (if ((t404 == 0) != ((ji15) == x11_6)) = true then (none) else (if t404 = 0 then (examboardlaw49_JournalPrefix.j1 kj6 t385 (ji15) t395 x11_6 false) else (examboardlaw49_JournalPrefix.j1 kj6 t385 (ji15) t395 x11_6 (t404 != 4)))) else (none)) else (none))) else (none)) else (none)) = some r := H
    have A18 := am A180
    clear A180
    have HC19 := am H
    clear H
    have q20 : ((ji15) : Int) ≤ ((t385.length : Int) : Int) := of_decide_eq_true az
    obtain ⟨i020, hi020, _, hsz20, _⟩ := info_parts info5
    have hroom20 : t385.length ≤ co9 := (Kd.R_reads' HO_5.out).2.1
    have hC20 : Kd.F (Kd.int .u8) _ _ Ao9 t385.length t385 := (Kd.V_at (base := w.heap.size) (Kd.R_V (Kd.R_apart' (HO_5.out) (Kd.N_typed HO_6.out) (by decide)))).2.2
    have hcut20 := cut_to (P := Tryd.prog) 24 5 .i64 Tryd.underlying24 hi020 Ao9 t385.length co9 (ji15) (of_decide_eq_true az) q20 hroom20
    have hr20 := Kd.F_take (m := ((ji15) : Int).toNat) hC20 (by omega)
    have hy20 : y397.length = ((ji15) : Int).toNat := (by rw [Ny397.out, List.length_take]; omega)
    rw [← Ny397.out] at hr20
    rw [← hy20] at hcut20
    have HO401 := am (show Kd.V (Kd.int .u8) 5 _ w.heap.size _ (.slice Ao9 y397.length co9) y397 from Kd.V_mk (by omega) hr20)
    have HC401 := am (show y397.length ≤ co9 from by omega)
    clear hr20 hC20 hroom20 hi020 hsz20
    have KY20 := am hy20
    clear hy20
    replace q20 := eq_true q20
    go_upto_region 10 with (first | ((with_reducible refine gate_callee (f := 11) rfl ?_); refine goesL_ (some 44) rfl rfl Tryd.func11 (by kernel_rfl) rfl #[.slice Ao9 y397.length co9] rfl lz ?_; (with_reducible refine (journal_Read.calls kj6 _ _ y397 t402 t403 t404 _ ?sideG ?side1 ?side2 A18.out).mono ?_); (case sideG => exact gle HG_.out (hz HB.out)); (case side1 => repeat (first | exact (Kd.V_reads' HO401.out).2.2 | (with_reducible refine Kd.C_alloc ?_ _) | (with_reducible refine Kd.C_drewN ?_ _) | (with_reducible refine Kd.C_drew ?_))); (case side2 => exact (Kd.V_reads' HO401.out).2.1); rintro e w21 ⟨v405, rfl, ho0, hb⟩; refine ⟨_, rfl, ?_⟩; replace HO401 := am (Kd.V_elder' (vz HO401.out) (Kd.R_base ho0) hb); have HO406 := am (Kd.N_lower (Kd.N_mono (ok' := fun k_ => some k_ ≠ (.slice Ao9 t385.length co9 : Value).ownBlock ∧ some k_ ≠ (v389 : Value).ownBlock) (Kd.R_N (Kd.R_bound ho0)) (fun k_ hk_ => ⟨(Kd.fresh' (Kd.R_lt (rz HO_5.out)) k_ hk_.2.1), (Kd.fresh' (Kd.N_lt (nz HO_6.out)) k_ hk_.2.1)⟩)) (below_size (hz HB.out))); replace HO_5 := am (Kd.R_below (rz HO_5.out) hb); replace HO_6 := am (Kd.N_elder' (nz HO_6.out) (Kd.R_base ho0) hb); replace HB := am (below_step (hz HB.out) hb); (try clear hb); (try clear hk); (try clear hi); (try clear ho0)))
    (try simp only [Act.put, List.setIfInBounds_toArray, List.set_cons_zero, List.set_cons_succ])
    go_cut [74] (fun v74 wc => ∃ (kq : Nat) (x74_18 : Bool), v74 = .bool x74_18 ∧ Aside0 (examboardlaw49_JournalPrefix.j1 kq t385 (ji15) t395 x11_6 x74_18 = some r) ∧ Aside0 (kq ≤ kj6) ∧ Aside0 (Kd.R (Kd.int .u8) 5 wc w.heap.size (fun _ => True) (.slice Ao9 t385.length co9) t385) ∧ Aside0 (Below w.heap.size w wc))
    case first =>
     have H := HC19.out
     clear HC19
     replace H := it_ H
     obtain ⟨c22, H⟩ := H
     have c22b0 := eq_true c22
     have c22b1 : decide (0 ≤ t395) = true := decide_eq_true c22
     clear c22
     replace H := it_ H
     obtain ⟨c23, H⟩ := H
     have c23b0 := eq_true c23
     have c23b1 : decide (t395 ≤ (t388.length : Int)) = true := decide_eq_true c23
     clear c23
     obtain ⟨y407, hy407⟩ : ∃ y_ : List (S43), y_ = (t388.take (t395 : Int).toNat) := ⟨_, rfl⟩
     replace H : ((examboardlaw49_same.f kj6 t402 y407).bind fun t412 => (if t412 = true then (if t403 = x11_6 then (if ((t404 == 0) != ((ji15) == x11_6)) = true then (none) else (if t404 = 0 then (examboardlaw49_JournalPrefix.j1 kj6 t385 (ji15) t395 x11_6 false) else (examboardlaw49_JournalPrefix.j1 kj6 t385 (ji15) t395 x11_6 (t404 != 4)))) else (none)) else (none))) = some r := by first | (rw [hy407]; with_reducible exact H) | (have H2_ := (Option.bind_some _ _).symm.trans H; rw [hy407]; with_reducible exact H2_) | (have H2_ := (Option.bind_some _ _).symm.trans H; with_reducible exact H2_) | with_reducible exact H | (rw [hy407]; exact H) | exact H
     have Ny407 := am hy407
     clear hy407
     replace H := Option.bind_eq_some_iff.mp H
     obtain ⟨t412, A240, H⟩ := H
     replace H : (if t412 = true then (if t403 = x11_6 then (if ((t404 == 0) != ((ji15) == x11_6)) = true then (none) else (if t404 = 0 then (examboardlaw49_JournalPrefix.j1 kj6 t385 (ji15) t395 x11_6 false) else (examboardlaw49_JournalPrefix.j1 kj6 t385 (ji15) t395 x11_6 (t404 != 4)))) else (none)) else (none)) = some r := H
     have A24 := am A240
     clear A240
     by_cases c25 : t412 = true
     ·
      subst c25
      have H1 : (if t403 = x11_6 then (if ((t404 == 0) != ((ji15) == x11_6)) = true then (none) else (if t404 = 0 then (examboardlaw49_JournalPrefix.j1 kj6 t385 (ji15) t395 x11_6 false) else (examboardlaw49_JournalPrefix.j1 kj6 t385 (ji15) t395 x11_6 (t404 != 4)))) else (none)) = some r := by rw [if_pos rfl] at H; exact H
      clear H
      have H := H1
      clear H1
      replace H := it_ H
      obtain ⟨c26, H⟩ := H
      have c26b0 : (t403 == x11_6) = true := beq_iff_eq.mpr c26
      have c26b1 : (t403 != x11_6) = false := bne_eq_false_iff_eq.mpr c26
      clear c26
      (first | rw [c26b0] | (simp only [i64_w, i32_w]; rw [c26b0]) | skip)
      replace H := ie_ H
      obtain ⟨c27, H⟩ := H
      have c27b0 : ((t404 == 0) != ((ji15) == x11_6)) = false := by simpa using c27
      obtain ⟨bq_, hq_⟩ : ∃ bq_ : Bool, (ji15 == x11_6) = bq_ := ⟨_, rfl⟩
      have hq2_ : decide (ji15 = x11_6) = bq_ := hq_
      rw [show ((ji15) == x11_6) = bq_ from hq_] at c27b0
      clear c27
      by_cases c28 : t404 = 0
      ·
       rw [if_pos c28] at H
       have c28b0 : (t404 == 0) = true := beq_iff_eq.mpr c28
       have c28b1 : (t404 != 0) = false := bne_eq_false_iff_eq.mpr c28
       have hv_ : bq_ = true := (by rw [c28b0] at c27b0; simpa using c27b0)
       clear c27b0
       clear c28
       have H' := am H
       clear H
       obtain ⟨Ao30, co30, eo30⟩ := Kd.N_slice HO_6.out
       subst eo30
       have q29 : (t395 : Int) ≤ ((t388.length : Int) : Int) := of_decide_eq_true az
       obtain ⟨i029, hi029, _, hsz29, _⟩ := info_parts info43
       have hroom29 : t388.length ≤ co30 := (Kd.N_reads' HO_6.out).2.1
       have hC29 : Kd.F k43 _ _ Ao30 t388.length t388 := (Kd.V_at (base := w.heap.size) (Kd.N_V HO_6.out)).2.2
       have hcut29 := cut_to (P := Tryd.prog) 22 43 .i64 Tryd.underlying22 hi029 Ao30 t388.length co30 t395 (of_decide_eq_true az) q29 hroom29
       have hr29 := Kd.F_take (m := (t395 : Int).toNat) hC29 (by omega)
       have hy29 : y407.length = (t395 : Int).toNat := (by rw [Ny407.out, List.length_take]; omega)
       rw [← Ny407.out] at hr29
       rw [← hy29] at hcut29
       have HO411 := am (show Kd.V k43 43 _ w.heap.size _ (.slice Ao30 y407.length co30) y407 from Kd.V_mk (by omega) hr29)
       have HC411 := am (show y407.length ≤ co30 from by omega)
       clear hr29 hC29 hroom29 hi029 hsz29
       have KY29 := am hy29
       clear hy29
       replace q29 := eq_true q29
       obtain ⟨Ao31, co31, eo31⟩ := Kd.N_slice HO406.out
       subst eo31
       go_wp2_with (first | ((with_reducible refine gate_callee (f := 12) rfl ?_); refine goesL_ (some 52) rfl rfl Tryd.func12 (by kernel_rfl) rfl #[.slice Ao31 t402.length co31, .slice Ao30 y407.length co30] rfl lz ?_; (with_reducible refine (examboardlaw49_same.calls kj6 _ _ t402 _ _ y407 true _ ?side1 ?side2 ?side3 ?side4 A24.out).mono ?_); (case side1 => repeat (first | exact (Kd.N_reads' HO406.out).2.2 | (with_reducible refine Kd.C_alloc ?_ _) | (with_reducible refine Kd.C_drewN ?_ _) | (with_reducible refine Kd.C_drew ?_))); (case side2 => exact (Kd.N_reads' HO406.out).2.1); (case side3 => repeat (first | exact (Kd.V_reads' HO411.out).2.2 | (with_reducible refine Kd.C_alloc ?_ _) | (with_reducible refine Kd.C_drewN ?_ _) | (with_reducible refine Kd.C_drew ?_))); (case side4 => exact (Kd.V_reads' HO411.out).2.1); rintro e w32 ⟨rfl, hb⟩; refine ⟨_, rfl, ?_⟩; replace HO_5 := am (Kd.R_below (rz HO_5.out) hb); replace HO_6 := am (Kd.N_below (nz HO_6.out) hb); replace HO401 := am (Kd.V_below (vz HO401.out) hb); replace HO406 := am (Kd.N_below (nz HO406.out) hb); replace HO411 := am (Kd.V_below (vz HO411.out) hb); replace HB := am (below_step (hz HB.out) hb); (try clear hb); (try clear hk); (try clear hi)))
       go_meet
       case rel => exact ⟨_, (false), (by first | rfl | (simp; done) | (simp [*]; done)), H', ⟨by have := HJ6.out; first | omega | exact Nat.le_refl _⟩, ⟨by (with_reducible repeat (first | apply Kd.R_alloc | apply Kd.R_drewN | apply Kd.R_drew)); exact HO_5.out⟩, ⟨hz HB.out⟩⟩
      ·
       rw [if_neg c28] at H
       have c28b0 : (t404 == 0) = false := beq_eq_false_iff_ne.mpr c28
       have c28b1 : (t404 != 0) = true := bne_iff_ne.mpr c28
       have hv_ : bq_ = false := (by rw [c28b0] at c27b0; simpa using c27b0)
       clear c27b0
       have H' := am H
       clear H
       obtain ⟨Ao34, co34, eo34⟩ := Kd.N_slice HO_6.out
       subst eo34
       have q33 : (t395 : Int) ≤ ((t388.length : Int) : Int) := of_decide_eq_true az
       obtain ⟨i033, hi033, _, hsz33, _⟩ := info_parts info43
       have hroom33 : t388.length ≤ co34 := (Kd.N_reads' HO_6.out).2.1
       have hC33 : Kd.F k43 _ _ Ao34 t388.length t388 := (Kd.V_at (base := w.heap.size) (Kd.N_V HO_6.out)).2.2
       have hcut33 := cut_to (P := Tryd.prog) 22 43 .i64 Tryd.underlying22 hi033 Ao34 t388.length co34 t395 (of_decide_eq_true az) q33 hroom33
       have hr33 := Kd.F_take (m := (t395 : Int).toNat) hC33 (by omega)
       have hy33 : y407.length = (t395 : Int).toNat := (by rw [Ny407.out, List.length_take]; omega)
       rw [← Ny407.out] at hr33
       rw [← hy33] at hcut33
       have HO411 := am (show Kd.V k43 43 _ w.heap.size _ (.slice Ao34 y407.length co34) y407 from Kd.V_mk (by omega) hr33)
       have HC411 := am (show y407.length ≤ co34 from by omega)
       clear hr33 hC33 hroom33 hi033 hsz33
       have KY33 := am hy33
       clear hy33
       replace q33 := eq_true q33
       obtain ⟨Ao35, co35, eo35⟩ := Kd.N_slice HO406.out
       subst eo35
       go_wp2_with (first | ((with_reducible refine gate_callee (f := 12) rfl ?_); refine goesL_ (some 52) rfl rfl Tryd.func12 (by kernel_rfl) rfl #[.slice Ao35 t402.length co35, .slice Ao34 y407.length co34] rfl lz ?_; (with_reducible refine (examboardlaw49_same.calls kj6 _ _ t402 _ _ y407 true _ ?side1 ?side2 ?side3 ?side4 A24.out).mono ?_); (case side1 => repeat (first | exact (Kd.N_reads' HO406.out).2.2 | (with_reducible refine Kd.C_alloc ?_ _) | (with_reducible refine Kd.C_drewN ?_ _) | (with_reducible refine Kd.C_drew ?_))); (case side2 => exact (Kd.N_reads' HO406.out).2.1); (case side3 => repeat (first | exact (Kd.V_reads' HO411.out).2.2 | (with_reducible refine Kd.C_alloc ?_ _) | (with_reducible refine Kd.C_drewN ?_ _) | (with_reducible refine Kd.C_drew ?_))); (case side4 => exact (Kd.V_reads' HO411.out).2.1); rintro e w36 ⟨rfl, hb⟩; refine ⟨_, rfl, ?_⟩; replace HO_5 := am (Kd.R_below (rz HO_5.out) hb); replace HO_6 := am (Kd.N_below (nz HO_6.out) hb); replace HO401 := am (Kd.V_below (vz HO401.out) hb); replace HO406 := am (Kd.N_below (nz HO406.out) hb); replace HO411 := am (Kd.V_below (vz HO411.out) hb); replace HB := am (below_step (hz HB.out) hb); (try clear hb); (try clear hk); (try clear hi)))
       go_meet
       case rel => exact ⟨_, ((t404 != 4)), (by first | rfl | (simp; done) | (simp [*]; done)), H', ⟨by have := HJ6.out; first | omega | exact Nat.le_refl _⟩, ⟨by (with_reducible repeat (first | apply Kd.R_alloc | apply Kd.R_drewN | apply Kd.R_drew)); exact HO_5.out⟩, ⟨hz HB.out⟩⟩
     ·
      replace c25 := Bool.eq_false_iff.mpr c25
      subst c25
      have H1 : (none) = some r := by rw [if_neg (show ¬ (false = true) by decide)] at H; exact H
      clear H
      have H := H1
      clear H1
      exact absurd H (by simp)
    case rest =>
     clear HC19
     try clear c1
     try clear c2
     try clear p2
     try clear q2
     try clear c3
     try clear p3
     try clear q3
     try clear hx3
     try clear c4
     try clear c5
     try clear c5b0
     try clear c5b1
     try clear p6
     try clear c9
     try clear c10
     try clear c11
     try clear c11b0
     try clear c12
     try clear c13
     try clear c13b0
     try clear c14
     try clear c14b0
     try clear c16
     try clear c16b0
     try clear c16b1
     try clear c17
     try clear c17b0
     try clear c17b1
     try clear q20
     try clear c22
     try clear c22b0
     try clear c22b1
     try clear c23
     try clear c23b0
     try clear c23b1
     try clear c25
     try clear c26
     try clear c26b0
     try clear c26b1
     try clear c27
     try clear c27b0
     try clear c27b1
     try clear c27b2
     try clear c28
     try clear c28b0
     try clear c28b1
     try clear q29
     try clear q33
     try clear hx396_0
     try clear p2
     try clear p3
     try clear p396
     try clear p6
     try clear q20
     try clear q29
     try clear q3
     try clear q33
     try clear q396
     obtain ⟨kq, x74_18, rfl, HA, HJ18, HO_5, HB⟩ := hcut
     cases kq with
     | zero => exact absurd HA.out (by simp [examboardlaw49_JournalPrefix.j1])
     | succ kj18 =>
      have H := HA.out
      clear HA
      simp only [examboardlaw49_JournalPrefix.j1] at H
      by_cases c37 : x74_18 = true
      ·
       subst c37
       have H1 : (none) = some r := by rw [if_pos rfl] at H; exact H
       clear H
       have H := H1
       clear H1
       exact absurd H (by simp)
      ·
       replace c37 := Bool.eq_false_iff.mpr c37
       subst c37
       have H1 : (if 0 ≤ (ji15) then (if (ji15) ≤ (t385.length : Int) then ((journal_Trim.f kj18 (t385.take ((ji15) : Int).toNat)).bind fun t418 => (if 0 ≤ x11_6 then (if x11_6 ≤ (t385.length : Int) then ((examboardlaw49_equal.f kj18 t418 (t385.take (x11_6 : Int).toNat)).bind fun t426 => (if t426 = true then ((journal_Count.f kj18 (t385.take ((ji15) : Int).toNat)).bind fun t432 => (if t432 = t395 then ((examboardlaw49_awake.f kj18).bind fun t433 => (some t433)) else (none))) else (none))) else (none)) else (none))) else (none)) else (none)) = some r := by rw [if_neg (show ¬ (false = true) by decide)] at H; exact H
       clear H
       have H := H1
       clear H1
       replace H := it_ H
       obtain ⟨c38, H⟩ := H
       have c38b0 := eq_true c38
       have c38b1 : decide (0 ≤ (ji15)) = true := decide_eq_true c38
       clear c38
       replace H := it_ H
       obtain ⟨c39, H⟩ := H
       have c39b0 := eq_true c39
       have c39b1 : decide ((ji15) ≤ (t385.length : Int)) = true := decide_eq_true c39
       clear c39
       obtain ⟨y413, hy413⟩ : ∃ y_ : List Int, y_ = (t385.take ((ji15) : Int).toNat) := ⟨_, rfl⟩
       replace H : ((journal_Trim.f kj18 y413).bind fun t418 => (if 0 ≤ x11_6 then (if x11_6 ≤ (t385.length : Int) then ((examboardlaw49_equal.f kj18 t418 (t385.take (x11_6 : Int).toNat)).bind fun t426 => (if t426 = true then ((journal_Count.f kj18 (t385.take ((ji15) : Int).toNat)).bind fun t432 => (if t432 = t395 then ((examboardlaw49_awake.f kj18).bind fun t433 => (some t433)) else (none))) else (none))) else (none)) else (none))) = some r := by first | (rw [hy413]; with_reducible exact H) | (have H2_ := (Option.bind_some _ _).symm.trans H; rw [hy413]; with_reducible exact H2_) | (have H2_ := (Option.bind_some _ _).symm.trans H; with_reducible exact H2_) | with_reducible exact H | (rw [hy413]; exact H) | exact H
       have Ny413 := am hy413
       clear hy413
       replace H := Option.bind_eq_some_iff.mp H
       obtain ⟨t418, A400, H⟩ := H
       replace H : (if 0 ≤ x11_6 then (if x11_6 ≤ (t385.length : Int) then ((examboardlaw49_equal.f kj18 t418 (t385.take (x11_6 : Int).toNat)).bind fun t426 => (if t426 = true then ((journal_Count.f kj18 (t385.take ((ji15) : Int).toNat)).bind fun t432 => (if t432 = t395 then ((examboardlaw49_awake.f kj18).bind fun t433 => (some t433)) else (none))) else (none))) else (none)) else (none)) = some r := H
       have A40 := am A400
       clear A400
       replace H := it_ H
       obtain ⟨c41, H⟩ := H
       have c41b0 := eq_true c41
       have c41b1 : decide (0 ≤ x11_6) = true := decide_eq_true c41
       clear c41
       replace H := it_ H
       obtain ⟨c42, H⟩ := H
       have c42b0 := eq_true c42
       have c42b1 : decide (x11_6 ≤ (t385.length : Int)) = true := decide_eq_true c42
       clear c42
       obtain ⟨y421, hy421⟩ : ∃ y_ : List Int, y_ = (t385.take (x11_6 : Int).toNat) := ⟨_, rfl⟩
       replace H : ((examboardlaw49_equal.f kj18 t418 y421).bind fun t426 => (if t426 = true then ((journal_Count.f kj18 (t385.take ((ji15) : Int).toNat)).bind fun t432 => (if t432 = t395 then ((examboardlaw49_awake.f kj18).bind fun t433 => (some t433)) else (none))) else (none))) = some r := by first | (rw [hy421]; with_reducible exact H) | (have H2_ := (Option.bind_some _ _).symm.trans H; rw [hy421]; with_reducible exact H2_) | (have H2_ := (Option.bind_some _ _).symm.trans H; with_reducible exact H2_) | with_reducible exact H | (rw [hy421]; exact H) | exact H
       have Ny421 := am hy421
       clear hy421
       replace H := Option.bind_eq_some_iff.mp H
       obtain ⟨t426, A430, H⟩ := H
       replace H : (if t426 = true then ((journal_Count.f kj18 (t385.take ((ji15) : Int).toNat)).bind fun t432 => (if t432 = t395 then ((examboardlaw49_awake.f kj18).bind fun t433 => (some t433)) else (none))) else (none)) = some r := H
       have A43 := am A430
       clear A430
       by_cases c44 : t426 = true
       ·
        subst c44
        have H1 : ((journal_Count.f kj18 (t385.take ((ji15) : Int).toNat)).bind fun t432 => (if t432 = t395 then ((examboardlaw49_awake.f kj18).bind fun t433 => (some t433)) else (none))) = some r := by rw [if_pos rfl] at H; exact H
        clear H
        have H := H1
        clear H1
        have c45b0 := eq_true (of_decide_eq_true az : 0 ≤ (ji15))
        have c46b0 := eq_true (of_decide_eq_true az : (ji15) ≤ (t385.length : Int))
        obtain ⟨y427, hy427⟩ : ∃ y_ : List Int, y_ = (t385.take ((ji15) : Int).toNat) := ⟨_, rfl⟩
        replace H : ((journal_Count.f kj18 y427).bind fun t432 => (if t432 = t395 then ((examboardlaw49_awake.f kj18).bind fun t433 => (some t433)) else (none))) = some r := by first | (rw [hy427]; with_reducible exact H) | (have H2_ := (Option.bind_some _ _).symm.trans H; rw [hy427]; with_reducible exact H2_) | (have H2_ := (Option.bind_some _ _).symm.trans H; with_reducible exact H2_) | with_reducible exact H | (rw [hy427]; exact H) | exact H
        have Ny427 := am hy427
        clear hy427
        replace H := Option.bind_eq_some_iff.mp H
        obtain ⟨t432, A470, H⟩ := H
        replace H : (if t432 = t395 then ((examboardlaw49_awake.f kj18).bind fun t433 => (some t433)) else (none)) = some r := H
        have A47 := am A470
        clear A470
        replace H := it_ H
        obtain ⟨c48, H⟩ := H
        have c48b0 : (t432 == t395) = true := beq_iff_eq.mpr c48
        have c48b1 : (t432 != t395) = false := bne_eq_false_iff_eq.mpr c48
        clear c48
        replace H := Option.bind_eq_some_iff.mp H
        obtain ⟨t433, A490, H⟩ := H
        replace H : (some t433) = some r := H
        have A49 := am A490
        clear A490
        obtain rfl := Option.some.inj H
        try go_wp2
        replace HO_5 := am (Kd.R_drew HO_5.out)
        replace HB := am (below_drew1 HB.out)
        have q51 : ((ji15) : Int) ≤ ((t385.length : Int) : Int) := of_decide_eq_true az
        obtain ⟨i051, hi051, _, hsz51, _⟩ := info_parts info5
        have hroom51 : t385.length ≤ co9 := (Kd.R_reads' HO_5.out).2.1
        have hC51 : Kd.F (Kd.int .u8) _ _ Ao9 t385.length t385 := (Kd.V_at (base := w.heap.size) (Kd.R_V HO_5.out)).2.2
        (try clear hcut20)
        have hcut51 := cut_to (P := Tryd.prog) 24 5 .i64 Tryd.underlying24 hi051 Ao9 t385.length co9 (ji15) (of_decide_eq_true az) q51 hroom51
        have hr51 := Kd.F_take (m := ((ji15) : Int).toNat) hC51 (by omega)
        have hy51 : y413.length = ((ji15) : Int).toNat := (by rw [Ny413.out, List.length_take]; omega)
        rw [← Ny413.out] at hr51
        rw [← hy51] at hcut51
        have HO417 := am (show Kd.V (Kd.int .u8) 5 _ w.heap.size _ (.slice Ao9 y413.length co9) y413 from Kd.V_mk (by omega) hr51)
        have HC417 := am (show y413.length ≤ co9 from by omega)
        clear hr51 hC51 hroom51 hi051 hsz51
        have KY51 := am hy51
        clear hy51
        replace q51 := eq_true q51
        have q52 : (x11_6 : Int) ≤ ((t385.length : Int) : Int) := of_decide_eq_true az
        obtain ⟨i052, hi052, _, hsz52, _⟩ := info_parts info5
        have hroom52 : t385.length ≤ co9 := (Kd.R_reads' HO_5.out).2.1
        have hC52 : Kd.F (Kd.int .u8) _ _ Ao9 t385.length t385 := (Kd.V_at (base := w.heap.size) (Kd.R_V HO_5.out)).2.2
        have hcut52 := cut_to (P := Tryd.prog) 24 5 .i64 Tryd.underlying24 hi052 Ao9 t385.length co9 x11_6 (of_decide_eq_true az) q52 hroom52
        have hr52 := Kd.F_take (m := (x11_6 : Int).toNat) hC52 (by omega)
        have hy52 : y421.length = (x11_6 : Int).toNat := (by rw [Ny421.out, List.length_take]; omega)
        rw [← Ny421.out] at hr52
        rw [← hy52] at hcut52
        have HO425 := am (show Kd.V (Kd.int .u8) 5 _ w.heap.size _ (.slice Ao9 y421.length co9) y421 from Kd.V_mk (by omega) hr52)
        have HC425 := am (show y421.length ≤ co9 from by omega)
        clear hr52 hC52 hroom52 hi052 hsz52
        have KY52 := am hy52
        clear hy52
        replace q52 := eq_true q52
        refine start_ (n := 20) (S := fun w' => True) (ds := []) #[false, false, false, false, false, false, false, false, false, false, false, false, false, false, false, false, false, false, false, false] (by kernel_rfl) rfl rfl trivial (fun hHeld => ?_); refine with_tabW examboardlaw49_JournalPrefix.tab12 examboardlaw49_JournalPrefix.bits12 (fun HT_ HW_ => ?_)
        generalize wc.drew = w50 at HO_5 HB HO417 HO425 hHeld ⊢
        refine pz 0 75 HT_.out ?_
        refine pz 1 76 HT_.out ?_
        refine pz 2 77 HT_.out ?_
        refine pz 4 79 HT_.out ?_
        refine pz 5 80 HT_.out ?_
        refine pz 6 81 HT_.out ?_
        refine oz 3 78 HT_.out (fun K hK => ?_)
        refine goes_ Tryd.func14 (by kernel_rfl) rfl #[.slice Ao9 y413.length co9] (by rfl) rfl rfl lz ?_
        with_reducible refine (journal_Trim.calls kj18 _ _ y413 t418 _ ?side1 ?side2 A40.out).mono ?_
        (case side1 => repeat (first | exact (Kd.V_reads' HO417.out).2.2 | (with_reducible refine Kd.C_alloc ?_ _) | (with_reducible refine Kd.C_drewN ?_ _) | (with_reducible refine Kd.C_drew ?_)))
        (case side2 => exact (Kd.V_reads' HO417.out).2.1)
        rintro e w53 ⟨v419, rfl, ho0, hb⟩
        refine ⟨_, rfl, ?_⟩
        replace HO417 := am (Kd.V_elder' (vz HO417.out) (Kd.R_base ho0) hb)
        replace HO425 := am (Kd.V_elder' (vz HO425.out) (Kd.R_base ho0) hb)
        have HO420 := am (Kd.R_lower (Kd.R_new' ho0 (Kd.R_lt (rz HO_5.out))) (below_size (hz HB.out)))
        replace HO_5 := am (Kd.R_elder' (rz HO_5.out) (Kd.R_base ho0) hb)
        replace HB := am (below_step (hz HB.out) hb)
        (try clear hb)
        (try clear hb2)
        (try clear hk)
        (try clear hi)
        (try clear ho0)
        obtain ⟨Ao54, co54, eo54⟩ := Kd.R_slice HO420.out
        (first | subst eo54 | (injection eo54 with f1_ f2_ f3_; have f4_ := f1_.symm; have f5_ := f3_.symm; clear f1_ f2_ f3_; subst f4_; subst f5_))
        refine hK.out _ _ trivial (fun hHeld => ?_)
        clear hK K
        refine norm_ (a' := ?_) ?_ ?_
        rotate_left
        ·
         show Act.put _ (some 78) _ = _
         simp only [Act.put, List.setIfInBounds_toArray, List.set_cons_zero, List.set_cons_succ, i64_w, i32_w]
         rfl
        refine oz 7 82 HT_.out (fun K hK => ?_)
        refine goes_ Tryd.func13 (by kernel_rfl) rfl #[.slice Ao54 t418.length co54, .slice Ao9 y421.length co9] (by rfl) rfl rfl lz ?_
        with_reducible refine (examboardlaw49_equal.calls kj18 _ _ t418 _ _ y421 true _ ?side1 ?side2 ?side3 ?side4 A43.out).mono ?_
        (case side1 => repeat (first | exact (Kd.R_reads' HO420.out).2.2 | (with_reducible refine Kd.C_alloc ?_ _) | (with_reducible refine Kd.C_drewN ?_ _) | (with_reducible refine Kd.C_drew ?_)))
        (case side2 => exact (Kd.R_reads' HO420.out).2.1)
        (case side3 => repeat (first | exact (Kd.V_reads' HO425.out).2.2 | (with_reducible refine Kd.C_alloc ?_ _) | (with_reducible refine Kd.C_drewN ?_ _) | (with_reducible refine Kd.C_drew ?_)))
        (case side4 => exact (Kd.V_reads' HO425.out).2.1)
        rintro e w' ⟨rfl, ⟨nd, rfl⟩⟩
        refine ⟨_, rfl, ?_⟩
        have q55 : ((ji15) : Int) ≤ ((t385.length : Int) : Int) := of_decide_eq_true az
        obtain ⟨i055, hi055, _, hsz55, _⟩ := info_parts info5
        have hroom55 : t385.length ≤ co9 := (Kd.R_reads' HO_5.out).2.1
        have hC55 : Kd.F (Kd.int .u8) _ _ Ao9 t385.length t385 := (Kd.V_at (base := w.heap.size) (Kd.R_V HO_5.out)).2.2
        (try clear hcut51)
        have hcut55 := cut_to (P := Tryd.prog) 24 5 .i64 Tryd.underlying24 hi055 Ao9 t385.length co9 (ji15) (of_decide_eq_true az) q55 hroom55
        have hr55 := Kd.F_take (m := ((ji15) : Int).toNat) hC55 (by omega)
        have hy55 : y427.length = ((ji15) : Int).toNat := (by rw [Ny427.out, List.length_take]; omega)
        rw [← Ny427.out] at hr55
        rw [← hy55] at hcut55
        have HO431 := am (show Kd.V (Kd.int .u8) 5 _ w.heap.size _ (.slice Ao9 y427.length co9) y427 from Kd.V_mk (by omega) hr55)
        have HC431 := am (show y427.length ≤ co9 from by omega)
        clear hr55 hC55 hroom55 hi055 hsz55
        have KY55 := am hy55
        clear hy55
        replace q55 := eq_true q55
        refine hK.out _ _ trivial (fun hHeld => ?_)
        clear hK K
        refine norm_ (a' := ?_) ?_ ?_
        rotate_left
        ·
         show Act.put _ (some 82) _ = _
         simp only [Act.put, List.setIfInBounds_toArray, List.set_cons_zero, List.set_cons_succ, i64_w, i32_w]
         rfl
        refine pz 8 83 HT_.out ?_
        refine pz 9 84 HT_.out ?_
        refine pz 10 85 HT_.out ?_
        refine pz 11 86 HT_.out ?_
        refine pz 13 88 HT_.out ?_
        refine oz 12 87 HT_.out (fun K hK => ?_)
        refine goes_ Tryd.func15 (by kernel_rfl) rfl #[.slice Ao9 y427.length co9] (by rfl) rfl rfl lz ?_
        with_reducible refine (journal_Count.calls kj18 _ _ y427 t432 _ ?side1 ?side2 A47.out).mono ?_
        (case side1 => repeat (first | exact (Kd.V_reads' HO431.out).2.2 | (with_reducible refine Kd.C_alloc ?_ _) | (with_reducible refine Kd.C_drewN ?_ _) | (with_reducible refine Kd.C_drew ?_)))
        (case side2 => exact (Kd.V_reads' HO431.out).2.1)
        rintro e w56 ⟨rfl, hb⟩
        refine ⟨_, rfl, ?_⟩
        replace HO_5 := am (Kd.R_below (rz HO_5.out) hb)
        replace HO417 := am (Kd.V_below (vz HO417.out) hb)
        replace HO425 := am (Kd.V_below (vz HO425.out) hb)
        replace HO420 := am (Kd.R_below (rz HO420.out) hb)
        replace HO431 := am (Kd.V_below (vz HO431.out) hb)
        replace HB := am (below_step (hz HB.out) hb)
        (try clear hb)
        (try clear hb2)
        (try clear hk)
        (try clear hi)
        refine hK.out _ _ trivial (fun hHeld => ?_)
        clear hK K
        refine norm_ (a' := ?_) ?_ ?_
        rotate_left
        ·
         show Act.put _ (some 87) _ = _
         simp only [Act.put, List.setIfInBounds_toArray, List.set_cons_zero, List.set_cons_succ, i64_w, i32_w]
         rfl
        refine pz 14 89 HT_.out ?_
        refine pz 15 90 HT_.out ?_
        refine pz 16 91 HT_.out ?_
        refine oz 17 92 HT_.out (fun K hK => ?_)
        refine goes_ Tryd.func16 (by kernel_rfl) rfl #[] (by rfl) rfl rfl lz ?_
        with_reducible refine (examboardlaw49_awake.calls kj18  t433 _ ?sideG A49.out).mono ?_
        case sideG => exact gle HG_.out (hz HB.out)
        rintro e w57 ⟨rfl, hb⟩
        refine ⟨_, rfl, ?_⟩
        replace HO_5 := am (Kd.R_below (rz HO_5.out) hb)
        replace HO417 := am (Kd.V_below (vz HO417.out) hb)
        replace HO425 := am (Kd.V_below (vz HO425.out) hb)
        replace HO420 := am (Kd.R_below (rz HO420.out) hb)
        replace HO431 := am (Kd.V_below (vz HO431.out) hb)
        replace HB := am (below_step (hz HB.out) hb)
        (try clear hb)
        (try clear hb2)
        (try clear hk)
        (try clear hi)
        refine hK.out _ _ trivial (fun hHeld => ?_)
        clear hK K
        refine norm_ (a' := ?_) ?_ ?_
        rotate_left
        ·
         show Act.put _ (some 92) _ = _
         simp only [Act.put, List.setIfInBounds_toArray, List.set_cons_zero, List.set_cons_succ, i64_w, i32_w]
         rfl
        refine pz 18 93 HT_.out ?_
        refine pz 19 4 HT_.out ?_
        refine done_ (done_of HT_.out (by kernel_rfl)) ?_
        try go_wp2
        go_ret
        exact ⟨by first | rfl | (simp [errW_none, errW_some] <;> rfl) | (simp only [← hji15]; first | rfl | (simp [errW_none, errW_some] <;> rfl)) | (simp [*, errW_none, errW_some] <;> rfl), hz HB.out⟩
       ·
        replace c44 := Bool.eq_false_iff.mpr c44
        subst c44
        have H1 : (none) = some r := by rw [if_neg (show ¬ (false = true) by decide)] at H; exact H
        clear H
        have H := H1
        clear H1
        exact absurd H (by simp)
 ·
  replace c4 := Bool.eq_false_iff.mpr c4
  subst c4
  have H1 : (none) = some r := by rw [if_neg (show ¬ (false = true) by decide)] at H; exact H
  clear H
  have H := H1
  clear H1
  exact absurd H (by simp)

end Go.Proofs.YteeggfnailpcpaaDoor.Q
