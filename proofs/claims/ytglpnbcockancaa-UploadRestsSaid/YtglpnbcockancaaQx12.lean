/- Made by wip/myprint.py of this session (it drives the kit's printer): what the calls of the Go functions come to, as plain Lean functions, and the row of a law over them; without conditions. -/
import Derived.Test.YtglpnbcockancaaQx0
import Derived.Test.YtglpnbcockancaaQx11
namespace Go.Proofs.Ytglpnbcockancaa.Q
open Go.RowKit Go.Proofs.YtglpnbcockancaaW.PrintWords Go.Proofs.YtglpnbcockancaaW.PrintLast Go.Proofs.YtglpnbcockancaaW.PrintMore
attribute [local go_sem] max2_int min2_int max_two min_two max_three min_three max_four min_four   -- for this text's walks alone
set_option linter.unusedVariables false
set_option linter.unusedSimpArgs false

/-! ### examboardref53_divide: function 33 -/
mutual
def examboardref53_divide.j0 : Nat → Int → List Int → Int → Int → Bool → Option ((List (S25)) × Int)
 | 0, _, _, _, _, _ => none
 | k + 1, x0, x1, x2, x3, x38 => if x38 = true then (some (([] : List (S25)), 3)) else (examboardref53_divide.l0 k x0 x1 x3 ([] : List (S25)) x2)
def examboardref53_divide.l0 : Nat → Int → List Int → Int → List (S25) → Int → Option ((List (S25)) × Int)
 | 0, _, _, _, _, _ => none
 | k + 1, x0, x1, x3, x10, x11 => if x11 < (x1.length : Int) then (if 0 ≤ x11 then (if x11 ≤ (mn (wrap64 (x11 + x3)) (x1.length : Int)) then (if (mn (wrap64 (x11 + x3)) (x1.length : Int)) ≤ (x1.length : Int) then ((examboardref53_Packet.f k x0 x11 ((x1.take ((mn (wrap64 (x11 + x3)) (x1.length : Int)) : Int).toNat).drop (x11 : Int).toNat)).bind fun bt167 => (if x10.length < 2932031007402 then (examboardref53_divide.l0 k x0 x1 x3 (x10 ++ [(⟨bt167.1, bt167.2.1, bt167.2.2.1, bt167.2.2.2.1⟩ : S25)]) (wrap64 (x11 + x3))) else (none))) else (none)) else (none)) else (none)) else (some (x10, 0))
end
def examboardref53_divide.f (k : Nat) (a0 : Int) (l1 : List Int) (a2 : Int) (a3 : Int) : Option ((List (S25)) × Int) := (examboardref53_within.f a0 1 9999999).bind fun t164 => (if t164 = true then ((examboardref53_within.f a3 1 2000).bind fun t165 => (if t165 = true then (if (l1.length : Int) > 1048576 then (examboardref53_divide.j0 k a0 l1 a2 a3 true) else (if a3 = 0 then (none) else (examboardref53_divide.j0 k a0 l1 a2 a3 (decide ((wrap64 (Int.tdiv (wrap64 ((wrap64 ((wrap64 ((l1.length : Int) - a2)) + a3)) - 1)) a3)) > 1024))))) else (examboardref53_divide.j0 k a0 l1 a2 a3 true))) else (examboardref53_divide.j0 k a0 l1 a2 a3 true))
theorem examboardref53_divide.mono_l : ∀ k, (∀ y0 y1 y2 y3 y4, LeO (examboardref53_divide.j0 k y0 y1 y2 y3 y4) (examboardref53_divide.j0 (k + 1) y0 y1 y2 y3 y4)) ∧ (∀ y0 y1 y2 y3 y4, LeO (examboardref53_divide.l0 k y0 y1 y2 y3 y4) (examboardref53_divide.l0 (k + 1) y0 y1 y2 y3 y4))
 | 0 => ⟨fun _ _ _ _ _ r h => by simp [examboardref53_divide.j0] at h, fun _ _ _ _ _ r h => by simp [examboardref53_divide.l0] at h⟩
 | k + 1 => by
  obtain ⟨ih0, ih1⟩ := examboardref53_divide.mono_l k
  refine ⟨?_, ?_⟩
  ·
   intro y0 y1 y2 y3 y4
   unfold examboardref53_divide.j0
   repeat' first
   | (with_reducible exact ih0 _ _ _ _ _)
   | (with_reducible exact ih1 _ _ _ _ _)
   | (with_reducible exact examboardref53_Packet.mono _ _ _ _)
   | (with_reducible exact LeO.refl _)
   | (with_reducible exact LeO.none _)
   | (with_reducible refine LeO.ite ?_ ?_)
   | (with_reducible refine LeO.bind ?_ (fun _ => ?_))
   | exact ih0 _ _ _ _ _
   | exact ih1 _ _ _ _ _
   | exact examboardref53_Packet.mono _ _ _ _
   | exact LeO.none _
   | refine LeO.ite ?_ ?_
   | refine LeO.bind ?_ (fun _ => ?_)
  ·
   intro y0 y1 y2 y3 y4
   unfold examboardref53_divide.l0
   repeat' first
   | (with_reducible exact ih0 _ _ _ _ _)
   | (with_reducible exact ih1 _ _ _ _ _)
   | (with_reducible exact examboardref53_Packet.mono _ _ _ _)
   | (with_reducible exact LeO.refl _)
   | (with_reducible exact LeO.none _)
   | (with_reducible refine LeO.ite ?_ ?_)
   | (with_reducible refine LeO.bind ?_ (fun _ => ?_))
   | exact ih0 _ _ _ _ _
   | exact ih1 _ _ _ _ _
   | exact examboardref53_Packet.mono _ _ _ _
   | exact LeO.none _
   | refine LeO.ite ?_ ?_
   | refine LeO.bind ?_ (fun _ => ?_)
theorem examboardref53_divide.mono : ∀ a0 a1 a2 a3 k, LeO (examboardref53_divide.f k a0 a1 a2 a3) (examboardref53_divide.f (k + 1) a0 a1 a2 a3) := by
 intro a0 a1 a2 a3 k
 obtain ⟨ih0, ih1⟩ := examboardref53_divide.mono_l k
 unfold examboardref53_divide.f
 repeat' first
   | (with_reducible exact ih0 _ _ _ _ _)
   | (with_reducible exact ih1 _ _ _ _ _)
   | (with_reducible exact examboardref53_Packet.mono _ _ _ _)
   | (with_reducible exact LeO.refl _)
   | (with_reducible exact LeO.none _)
   | (with_reducible refine LeO.ite ?_ ?_)
   | (with_reducible refine LeO.bind ?_ (fun _ => ?_))
   | exact ih0 _ _ _ _ _
   | exact ih1 _ _ _ _ _
   | exact examboardref53_Packet.mono _ _ _ _
   | exact LeO.none _
   | refine LeO.ite ?_ ?_
   | refine LeO.bind ?_ (fun _ => ?_)
set_option maxHeartbeats 8000000 in
set_option maxRecDepth 100000 in
theorem examboardref53_divide.calls (k : Nat) (a0 : Int) (A1 : Option Addr) (c1 : Nat) (l1 : List Int) (a2 : Int) (a3 : Int) (r1 : List (S25)) (r2 : Int) (w : World) (hr1 : Kd.C (Kd.int .u8) w A1 l1.length l1) (hc1 : l1.length ≤ c1) (h : examboardref53_divide.f k a0 l1 a2 a3 = some (r1, r2)) :
  Calls Try.prog 33 #[.int .i64 a0, .slice A1 l1.length c1, .int .i64 a2, .int .i64 a3] w fun e w' => ∃ v0_ : Value, e = .returned (.tuple #[v0_, .int .i64 r2]) ∧ Kd.S k25 25 w' w.heap.size (fun _ => True) v0_ r1 ∧ Below w.heap.size w w' := by
 have hu25 := Try.underlying25
 have HR1 := am hr1
 have HC1 := am hc1
 clear hr1 hc1
 have HB := am (Below.refl w.heap.size w)
 have H : ((examboardref53_within.f a0 1 9999999).bind fun t164 => (if t164 = true then ((examboardref53_within.f a3 1 2000).bind fun t165 => (if t165 = true then (if (l1.length : Int) > 1048576 then (examboardref53_divide.j0 k a0 l1 a2 a3 true) else (if a3 = 0 then (none) else (examboardref53_divide.j0 k a0 l1 a2 a3 (decide ((wrap64 (Int.tdiv (wrap64 ((wrap64 ((wrap64 ((l1.length : Int) - a2)) + a3)) - 1)) a3)) > 1024))))) else (examboardref53_divide.j0 k a0 l1 a2 a3 true))) else (examboardref53_divide.j0 k a0 l1 a2 a3 true))) = some (r1, r2) := h
 clear h
 have HC5 := am H
 clear H
 go_enter Try.func33, Try.ntmps33
 go_upto_region 1 with (fail)
 go_cut [38] (fun v38 wc => ∃ (kq : Nat) (x38_4 : Bool), v38 = .bool x38_4 ∧ Aside0 (examboardref53_divide.j0 kq a0 l1 a2 a3 x38_4 = some (r1, r2)) ∧ Aside0 (kq ≤ k) ∧ Aside0 (Below w.heap.size w wc))
 case first =>
  have H := HC5.out
  clear HC5
  replace H := Option.bind_eq_some_iff.mp H
  obtain ⟨t164, A60, H⟩ := H
  replace H : (if t164 = true then ((examboardref53_within.f a3 1 2000).bind fun t165 => (if t165 = true then (if (l1.length : Int) > 1048576 then (examboardref53_divide.j0 k a0 l1 a2 a3 true) else (if a3 = 0 then (none) else (examboardref53_divide.j0 k a0 l1 a2 a3 (decide ((wrap64 (Int.tdiv (wrap64 ((wrap64 ((wrap64 ((l1.length : Int) - a2)) + a3)) - 1)) a3)) > 1024))))) else (examboardref53_divide.j0 k a0 l1 a2 a3 true))) else (examboardref53_divide.j0 k a0 l1 a2 a3 true)) = some (r1, r2) := H
  have A6 := am A60
  clear A60
  by_cases c7 : t164 = true
  ·
   subst c7
   have H1 : ((examboardref53_within.f a3 1 2000).bind fun t165 => (if t165 = true then (if (l1.length : Int) > 1048576 then (examboardref53_divide.j0 k a0 l1 a2 a3 true) else (if a3 = 0 then (none) else (examboardref53_divide.j0 k a0 l1 a2 a3 (decide ((wrap64 (Int.tdiv (wrap64 ((wrap64 ((wrap64 ((l1.length : Int) - a2)) + a3)) - 1)) a3)) > 1024))))) else (examboardref53_divide.j0 k a0 l1 a2 a3 true))) = some (r1, r2) := by rw [if_pos rfl] at H; exact H
   clear H
   have H := H1
   clear H1
   replace H := Option.bind_eq_some_iff.mp H
   obtain ⟨t165, A80, H⟩ := H
   replace H : (if t165 = true then (if (l1.length : Int) > 1048576 then (examboardref53_divide.j0 k a0 l1 a2 a3 true) else (if a3 = 0 then (none) else (examboardref53_divide.j0 k a0 l1 a2 a3 (decide ((wrap64 (Int.tdiv (wrap64 ((wrap64 ((wrap64 ((l1.length : Int) - a2)) + a3)) - 1)) a3)) > 1024))))) else (examboardref53_divide.j0 k a0 l1 a2 a3 true)) = some (r1, r2) := H
   have A8 := am A80
   clear A80
   by_cases c9 : t165 = true
   ·
    subst c9
    have H1 : (if (l1.length : Int) > 1048576 then (examboardref53_divide.j0 k a0 l1 a2 a3 true) else (if a3 = 0 then (none) else (examboardref53_divide.j0 k a0 l1 a2 a3 (decide ((wrap64 (Int.tdiv (wrap64 ((wrap64 ((wrap64 ((l1.length : Int) - a2)) + a3)) - 1)) a3)) > 1024))))) = some (r1, r2) := by rw [if_pos rfl] at H; exact H
    clear H
    have H := H1
    clear H1
    by_cases c10 : (l1.length : Int) > 1048576
    ·
     rw [if_pos c10] at H
     have c10b0 : decide (1048576 < (l1.length : Int)) = true := decide_eq_true c10
     have c10b1 : decide (1048576 < l1.length) = true := decide_eq_true (by omega)
     clear c10
     (first | rw [c10b0] | (simp only [i64_w, i32_w]; rw [c10b0]) | skip)
     have H' := am H
     clear H
     go_wp2_with (first | ((with_reducible refine gate_callee (f := 35) rfl ?_); refine goesL_ (some 15) rfl rfl Try.func35 (by kernel_rfl) rfl #[.int .i64 a0, .int .i64 1, .int .i64 9999999] rfl lz ?_; (with_reducible refine (examboardref53_within.calls a0 1 9999999 true _ A6.out).mono ?_); rintro e w' ⟨rfl, ⟨nd, rfl⟩⟩; refine ⟨_, rfl, ?_⟩) | (go_at_call 35; (with_reducible refine (examboardref53_within.calls a3 1 2000 true _ A8.out).mono ?_); rintro e w' ⟨rfl, ⟨nd, rfl⟩⟩))
     go_meet
     case rel => exact ⟨_, (true), (by first | rfl | (simp; done) | (simp [*]; done)), H', ⟨by first | omega | exact Nat.le_refl _⟩, ⟨hz HB.out⟩⟩
    ·
     rw [if_neg c10] at H
     have c10b0 : decide (1048576 < (l1.length : Int)) = false := decide_eq_false c10
     have c10b1 : decide (1048576 < l1.length) = false := decide_eq_false (by omega)
     clear c10
     (first | rw [c10b0] | (simp only [i64_w, i32_w]; rw [c10b0]) | skip)
     by_cases c11 : a3 = 0
     ·
      rw [if_pos c11] at H
      exact absurd H (by simp)
     ·
      rw [if_neg c11] at H
      have c11b0 : (a3 == 0) = false := beq_eq_false_iff_ne.mpr c11
      have c11b1 : (a3 != 0) = true := bne_iff_ne.mpr c11
      have H' := am H
      clear H
      go_wp2_with (first | ((with_reducible refine gate_callee (f := 35) rfl ?_); refine goesL_ (some 15) rfl rfl Try.func35 (by kernel_rfl) rfl #[.int .i64 a0, .int .i64 1, .int .i64 9999999] rfl lz ?_; (with_reducible refine (examboardref53_within.calls a0 1 9999999 true _ A6.out).mono ?_); rintro e w' ⟨rfl, ⟨nd, rfl⟩⟩; refine ⟨_, rfl, ?_⟩) | (go_at_call 35; (with_reducible refine (examboardref53_within.calls a3 1 2000 true _ A8.out).mono ?_); rintro e w' ⟨rfl, ⟨nd, rfl⟩⟩))
      go_meet
      case rel => exact ⟨_, (decide ((wrap64 (Int.tdiv (wrap64 ((wrap64 ((wrap64 ((l1.length : Int) - a2)) + a3)) - 1)) a3)) > 1024)), (by first | rfl | (simp; done) | (simp [*]; done)), H', ⟨by first | omega | exact Nat.le_refl _⟩, ⟨hz HB.out⟩⟩
   ·
    replace c9 := Bool.eq_false_iff.mpr c9
    subst c9
    have H1 : (examboardref53_divide.j0 k a0 l1 a2 a3 true) = some (r1, r2) := by rw [if_neg (show ¬ (false = true) by decide)] at H; exact H
    clear H
    have H := H1
    clear H1
    have H' := am H
    clear H
    go_wp2_with (first | ((with_reducible refine gate_callee (f := 35) rfl ?_); refine goesL_ (some 15) rfl rfl Try.func35 (by kernel_rfl) rfl #[.int .i64 a0, .int .i64 1, .int .i64 9999999] rfl lz ?_; (with_reducible refine (examboardref53_within.calls a0 1 9999999 true _ A6.out).mono ?_); rintro e w' ⟨rfl, ⟨nd, rfl⟩⟩; refine ⟨_, rfl, ?_⟩) | (go_at_call 35; (with_reducible refine (examboardref53_within.calls a3 1 2000 false _ A8.out).mono ?_); rintro e w' ⟨rfl, ⟨nd, rfl⟩⟩))
    go_meet
    case rel => exact ⟨_, (true), (by first | rfl | (simp; done) | (simp [*]; done)), H', ⟨by first | omega | exact Nat.le_refl _⟩, ⟨hz HB.out⟩⟩
  ·
   replace c7 := Bool.eq_false_iff.mpr c7
   subst c7
   have H1 : (examboardref53_divide.j0 k a0 l1 a2 a3 true) = some (r1, r2) := by rw [if_neg (show ¬ (false = true) by decide)] at H; exact H
   clear H
   have H := H1
   clear H1
   have H' := am H
   clear H
   go_wp2_with (first | ((with_reducible refine gate_callee (f := 35) rfl ?_); refine goesL_ (some 15) rfl rfl Try.func35 (by kernel_rfl) rfl #[.int .i64 a0, .int .i64 1, .int .i64 9999999] rfl lz ?_; (with_reducible refine (examboardref53_within.calls a0 1 9999999 false _ A6.out).mono ?_); rintro e w' ⟨rfl, ⟨nd, rfl⟩⟩; refine ⟨_, rfl, ?_⟩))
   go_meet
   case rel => exact ⟨_, (true), (by first | rfl | (simp; done) | (simp [*]; done)), H', ⟨by first | omega | exact Nat.le_refl _⟩, ⟨hz HB.out⟩⟩
 case rest =>
  clear HC5
  try clear c1
  try clear p2
  try clear c3
  try clear p6
  try clear c7
  try clear c9
  try clear c10
  try clear c10b0
  try clear c10b1
  try clear c11
  try clear c11b0
  try clear c11b1
  obtain ⟨kq, x38_4, rfl, HA, HJ4, HB⟩ := hcut
  cases kq with
  | zero => exact absurd HA.out (by simp [examboardref53_divide.j0])
  | succ kj4 =>
   have H := HA.out
   clear HA
   simp only [examboardref53_divide.j0] at H
   by_cases c12 : x38_4 = true
   ·
    subst c12
    have H1 : (some (([] : List (S25)), 3)) = some (r1, r2) := by rw [if_pos rfl] at H; exact H
    clear H
    have H := H1
    clear H1
    simp only [Option.some.injEq, Prod.mk.injEq] at H
    obtain ⟨rfl, rfl⟩ := H
    go_wp2
    go_ret2
    exact ⟨_, by first | rfl | (simp [errW_none, errW_some] <;> rfl) | (simp [*, errW_none, errW_some] <;> rfl), by first | exact Kd.S_nil _ _ _ _ _ | exact Kd.N_nil _ _ _ _ _ | exact Kd.V_nil _ _ _ _ _ | exact Kd.Q_nil _ _ _ _ _ | exact Kd.R_nil _ _ _ _ _, hz HB.out⟩
   ·
    replace c12 := Bool.eq_false_iff.mpr c12
    subst c12
    have H1 : (examboardref53_divide.l0 kj4 a0 l1 a3 ([] : List (S25)) a2) = some (r1, r2) := by rw [if_neg (show ¬ (false = true) by decide)] at H; exact H
    clear H
    have H := H1
    clear H1
    have H' := am H
    clear H
    go_wp2
    go_loopg [10, 11] kj4 (fun kq v10 v11 w' => ∃ (x10_2 : List (S25)) (x11_2 : Int), v11 = .int .i64 x11_2 ∧ Aside0 (examboardref53_divide.l0 kq a0 l1 a3 x10_2 x11_2 = some (r1, r2)) ∧ Aside0 (kq ≤ kj4) ∧ Aside0 (Kd.S k25 25 w' w.heap.size (fun _ => True) v10 x10_2) ∧ Aside0 (Below w.heap.size w w'))
    case atStart => exact ⟨(([] : List (S25))), (a2), (by first | rfl | (simp; done) | (simp [*]; done)), H', ⟨Nat.le_refl _⟩, ⟨by first | exact Kd.S_nil _ _ _ _ _ | exact Kd.N_nil _ _ _ _ _ | exact Kd.V_nil _ _ _ _ _ | exact Kd.Q_nil _ _ _ _ _ | exact Kd.R_nil _ _ _ _ _⟩, ⟨hz HB.out⟩⟩
    case round =>
     clear H'
     try clear c1
     try clear p2
     try clear c3
     try clear p6
     try clear c7
     try clear c9
     try clear c10
     try clear c10b0
     try clear c10b1
     try clear c11
     try clear c11b0
     try clear c11b1
     try clear c12
     try clear p2
     try clear p6
     obtain ⟨x10_2, x11_2, rfl, HA, HK2, HO_10, HB⟩ := hrel
     cases gk with
     | zero => exact absurd HA.out (by simp [examboardref53_divide.l0])
     | succ k2 =>
      have H := HA.out
      clear HA
      simp only [examboardref53_divide.l0] at H
      by_cases c13 : x11_2 < (l1.length : Int)
      ·
       rw [if_pos c13] at H
       have c13b0 : decide (x11_2 < (l1.length : Int)) = true := decide_eq_true c13
       clear c13
       obtain ⟨ji14, hji14⟩ : ∃ j_ : Int, (mn (wrap64 (x11_2 + a3)) (l1.length : Int)) = j_ := ⟨_, rfl⟩
       replace H : (if 0 ≤ x11_2 then (if x11_2 ≤ (ji14) then (if (ji14) ≤ (l1.length : Int) then ((examboardref53_Packet.f k2 a0 x11_2 ((l1.take ((ji14) : Int).toNat).drop (x11_2 : Int).toNat)).bind fun bt167 => (if x10_2.length < 2932031007402 then (examboardref53_divide.l0 k2 a0 l1 a3 (x10_2 ++ [(⟨bt167.1, bt167.2.1, bt167.2.2.1, bt167.2.2.2.1⟩ : S25)]) (wrap64 (x11_2 + a3))) else (none))) else (none)) else (none)) else (none)) = some (r1, r2) := by first | (rw [hji14] at H; exact H) | (simp only [hji14] at H ⊢; exact H)
       have hji14_ : (if (l1.length : Int) < (wrap64 (x11_2 + a3)) then (l1.length : Int) else (wrap64 (x11_2 + a3))) = ji14 := hji14
       by_cases c15 : 0 ≤ x11_2
       ·
        rw [if_pos c15] at H
        have c15b0 := eq_true c15
        have c15b1 : decide (0 ≤ x11_2) = true := decide_eq_true c15
        clear c15
        by_cases c16 : x11_2 ≤ (ji14)
        ·
         rw [if_pos c16] at H
         have c16b0 := eq_true c16
         have c16b1 : decide (x11_2 ≤ (ji14)) = true := decide_eq_true c16
         clear c16
         by_cases c17 : (ji14) ≤ (l1.length : Int)
         ·
          rw [if_pos c17] at H
          have c17b0 := eq_true c17
          have c17b1 : decide ((ji14) ≤ (l1.length : Int)) = true := decide_eq_true c17
          clear c17
          replace H := Option.bind_eq_some_iff.mp H
          obtain ⟨⟨t167, t168, t169, t172, t173⟩, A180, H⟩ := H
          replace H : (if x10_2.length < 2932031007402 then (examboardref53_divide.l0 k2 a0 l1 a3 (x10_2 ++ [(⟨t167, t168, t169, t172⟩ : S25)]) (wrap64 (x11_2 + a3))) else (none)) = some (r1, r2) := H
          have A18 := am A180
          clear A180
          by_cases c19 : x10_2.length < 2932031007402
          ·
           rw [if_pos c19] at H
           have LMc19 := am c19
           clear c19
           obtain ⟨y175, hy175⟩ : ∃ y_ : List (S25), y_ = (x10_2 ++ [(⟨t167, t168, t169, t172⟩ : S25)]) := ⟨_, rfl⟩
           replace H : (examboardref53_divide.l0 k2 a0 l1 a3 y175 (wrap64 (x11_2 + a3))) = some (r1, r2) := by first | (rw [hy175]; with_reducible exact H) | (have H2_ := (Option.bind_some _ _).symm.trans H; rw [hy175]; with_reducible exact H2_) | (have H2_ := (Option.bind_some _ _).symm.trans H; with_reducible exact H2_) | with_reducible exact H | (rw [hy175]; exact H) | exact H
           have Ny175 := am hy175
           clear hy175
           have H' := am H
           clear H
           obtain ⟨i020, hi020, _, hsz20, _⟩ := info_parts info5
           obtain ⟨A20, hcut20, hA20, hC20⟩ := print_mid_of (P := Try.prog) (Value.int .u8) 0 22 5 .i64 .i64 Try.underlying22 hi020 hsz20 A1 c1 l1 x11_2 (ji14) (of_decide_eq_true az) (by first | omega | exact of_decide_eq_true az) (of_decide_eq_true az) HC1.out
           have HR166 := am (Kd.C_of_reads (h1 := fun _ => rfl) (hA20 _ (Kd.reads_of_C HR1.out)))
           have HC166 := am hC20
           clear hA20 hC20 hi020 hsz20
           go_wp2_with (first | ((with_reducible refine gate_callee (f := 10) rfl ?_); refine goesL_ (some 59) rfl rfl Try.func10 (by kernel_rfl) rfl #[.int .i64 a0, .int .i64 x11_2, .slice A20 ((l1.take ((ji14) : Int).toNat).drop (x11_2 : Int).toNat).length (c1 - x11_2.toNat)] rfl (by (try simp only [List.map_toArray, List.map_cons, List.map_nil]); first | done | (rw [show ((l1.take ((ji14) : Int).toNat).drop (x11_2 : Int).toNat).length = ((ji14).toNat - x11_2.toNat) from (by rw [List.length_drop, List.length_take]; have h_ : ((ji14) : Int) ≤ (l1.length : Int) := of_decide_eq_true az; omega)] <;> rfl) | (simp only [hji14]; rfl) | rfl | (simp only [List.length_drop, List.length_take]; rfl)) ?_; (with_reducible refine (examboardref53_Packet.calls k2 a0 x11_2 _ _ ((l1.take ((ji14) : Int).toNat).drop (x11_2 : Int).toNat) t167 t168 t169 t172 t173 _ ?side1 ?side2 A18.out).mono ?_); (case side1 => exact cz (Kd.C_below HR166.out HB.out)); (case side2 => exact HC166.out); rintro e w21 ⟨v170, rfl, ho0, hb⟩; refine ⟨_, rfl, ?_⟩; have n0_ := am (Kd.S_elder' (sz HO_10.out) (Kd.R_base ho0) hb); have n1_ := am (Kd.R_lower ho0 (below_size (hz HB.out))); have n2_ := am (below_step (hz HB.out) hb); clear HO_10; clear HB; have HO_10 := n0_; have HO171 := n1_; have HB := n2_; clear n0_ n1_ n2_; (try clear hb); (try clear hb2); (try clear hk); (try clear hi); (try clear ho0)) | ((with_reducible refine gate_dst (N := 12) rfl ?_); (try (refine gate_guard (by rfl) ?_; dsimp only)); refine box_event ?hg (N := 12) ?hd (cs := #[.int .i64 0, .int .i64 0, .slice none 0 0, .int .u64 0]) (t := 25) ?hr ?_; (case hd => rfl); (case hg => rfl); (case hr => exact gz); intro gb174 hg w22 hbox hb; have n0_ := am (Kd.S_below (Kd.S_elderB (sz HO_10.out) gb174 (Nat.le_of_eq hg.symm)) hb); have n1_ := am (Kd.R_below (rz HO171.out) hb); have n2_ := am (below_step (hz HB.out) hb); have n3_ := am (hbox); have n4_ := am ((bs hg (hz HB.out) : w.heap.size ≤ gb174)); have n5_ := am ((bs hg (hz HB.out) : w.heap.size ≤ gb174)); clear HO_10; clear HO171; clear HB; have HO_10 := n0_; have HO171 := n1_; have HB := n2_; have BK174 := n3_; have GW174 := n4_; have GE174 := n5_; clear n0_ n1_ n2_ n3_ n4_ n5_; clear hb hbox hg; obtain ⟨hcz23_0, hcz23_1, hcz23_2, hcz23_3⟩ := cs4 BK174.out; obtain ⟨hfz23_0, hfz23_1, hfz23_2, hfz23_3⟩ := fs4 BK174.out; obtain ⟨Ao24, co24, eo24⟩ := Kd.R_slice HO171.out; subst eo24) | ((with_reducible refine gate_store (t := 25) (p := 12) rfl ?_); refine store_event (t := 25) (p := 12) (v := ?vo_w25) (w1 := ((((w22.setCell ⟨gb174, 0, none⟩ (.int .i64 t167)).setCell ⟨gb174, 1, none⟩ (.int .i64 t168)).setCell ⟨gb174, 2, none⟩ (.slice Ao24 t169.length co24)).setCell ⟨gb174, 3, none⟩ (.int .u64 t172))) ?hg ?ho ?hn ?hr ?_; (case ho => rfl); (case hg => rfl); (case hn => rfl); (case hr => exact gz); intro w25 hw; have n0_ : Aside0 (Kd.S k25 25 w25 w.heap.size (fun k_ => some k_ ≠ (.slice Ao24 t169.length co24 : Value).ownBlock ∧ k_ ≠ gb174) u10 x10_2) := ⟨(by rw [hw]; exact (sz (Kd.S_mono (Kd.S_far (p := ⟨gb174, 3, none⟩) (Kd.S_far (p := ⟨gb174, 2, none⟩) (Kd.S_far (p := ⟨gb174, 1, none⟩) (Kd.S_far (p := ⟨gb174, 0, none⟩) (Kd.S_mono HO_10.out (fun k_ hk => (⟨hk, hk.2⟩ : _ ∧ k_ ≠ gb174))) (fun _ hk => hk.2) (.int .i64 t167)) (fun _ hk => hk.2) (.int .i64 t168)) (fun _ hk => hk.2) (.slice Ao24 t169.length co24)) (fun _ hk => hk.2) (.int .u64 t172)) (fun _ hk => ⟨hk.1.1.2, hk.1.2⟩))))⟩; have n1_ : Aside0 (Kd.R (Kd.int .u8) 5 w25 w.heap.size (fun _ => True) (.slice Ao24 t169.length co24) t169) := ⟨(by rw [hw]; exact (rz (Kd.R_mono (rfg4 HO171.out BK174.out) (fun _ hk => trivial))))⟩; have n2_ : Aside0 (w25.heap[gb174]? = some (.cells #[.int .i64 t167, .int .i64 t168, .slice Ao24 t169.length co24, .int .u64 t172] 25 (0, 0))) := ⟨(by rw [hw]; exact (by (with_reducible repeat (first | refine blk_drewN ?_ _ | refine blk_drew ?_ | refine blk_alloc ?_ _)); refine blk_put (cs := #[.int .i64 t167, .int .i64 t168, .slice Ao24 t169.length co24, .int .u64 0]) ?_ 3 _ rfl; (with_reducible repeat (first | refine blk_drewN ?_ _ | refine blk_drew ?_ | refine blk_alloc ?_ _)); refine blk_put (cs := #[.int .i64 t167, .int .i64 t168, .slice none 0 0, .int .u64 0]) ?_ 2 _ rfl; (with_reducible repeat (first | refine blk_drewN ?_ _ | refine blk_drew ?_ | refine blk_alloc ?_ _)); refine blk_put (cs := #[.int .i64 t167, .int .i64 0, .slice none 0 0, .int .u64 0]) ?_ 1 _ rfl; (with_reducible repeat (first | refine blk_drewN ?_ _ | refine blk_drew ?_ | refine blk_alloc ?_ _)); refine blk_put (cs := #[.int .i64 0, .int .i64 0, .slice none 0 0, .int .u64 0]) ?_ 0 _ rfl; (with_reducible repeat (first | refine blk_drewN ?_ _ | refine blk_drew ?_ | refine blk_alloc ?_ _)); exact BK174.out))⟩; have n3_ : Aside0 (Below w.heap.size w w25) := ⟨(by rw [hw]; exact (hz1 HB.out GE174.out))⟩; clear hw; clear HO_10; clear HO171; clear BK174; clear HB; have HO_10 := n0_; have HO171 := n1_; have BK174 := n2_; have HB := n3_; clear n0_ n1_ n2_ n3_; obtain ⟨hcz26_0, hcz26_1, hcz26_2, hcz26_3⟩ := cs4 BK174.out; obtain ⟨hfz26_0, hfz26_1, hfz26_2, hfz26_3⟩ := fs4 BK174.out) | ((with_reducible refine gate_builtin (b := .append) (xs := #[.tmp 62, .tmp 64]) rfl ?_); (try (refine gate_guard (by rfl) ?_; dsimp only)); at_builtin; refine Kd.S_append k25 (w0 := w) w.heap.size rfl (.tmp 62) (.tmp 64) 30 25 (.agg #[(.int .i64 0), (.int .i64 0), (.slice none 0 0), (.int .u64 0)]) 48 rfl Try.underlying30 info25 rfl (by decide) (by omega) u10 x10_2 (⟨t167, t168, t169, t172⟩ : S25) [.int .i64 t167, .int .i64 t168, .slice Ao24 t169.length co24, .int .u64 t172] (fun k_ => k_ ≠ gb174) (fun k_ => some k_ = (.slice Ao24 t169.length co24 : Value).ownBlock) rfl rfl ?aP (fun k_ hk_ => ((Kd.R_mono (ok' := fun k_ => ((fun k_ => k_ ≠ gb174)) k_ ∧ some k_ ≠ (u10 : Value).ownBlock) (Kd.R_types (Kd.R_apart' (HO171.out) (Kd.S_typed HO_10.out) (by decide)) BK174.out (by decide)) (fun k_ hk => ⟨hk.2, hk.1.2⟩))).1 k_ hk_.symm) ?aF ?aO ?aB ?aS ?aL ?_; (case aP => exact k25_mkM _ _ _ (⟨t167, t168, t169, t172⟩ : S25) (Kd.R_mono (Kd.R_tight rfl (Kd.R_mono (ok' := fun k_ => ((fun k_ => k_ ≠ gb174)) k_ ∧ some k_ ≠ (u10 : Value).ownBlock) (Kd.R_types (Kd.R_apart' (HO171.out) (Kd.S_typed HO_10.out) (by decide)) BK174.out (by decide)) (fun k_ hk => ⟨hk.2, hk.1.2⟩))) (fun _ h_ => h_))); (case aB => exact (hz1 HB.out GE174.out)); (case aF => exact (fun k_ hk => Kd.freshB (g := gb174) (o := .cells #[.int .i64 t167, .int .i64 t168, .slice Ao24 t169.length co24, .int .u64 t172] 25 (0, 0)) (bz BK174.out) k_ hk)); (case aO => exact (sz (Kd.S_mono HO_10.out (fun k_ hk => ⟨hk.2, fun e_ => hk.1 e_⟩)))); (case aS => exact (below_size (hz1 HB.out GE174.out))); (case aL => have := LMc19.out; omega); intro v176 w27 ho hb hg hat; rw [← Ny175.out] at ho; have n0_ := am (blk_grown (bz BK174.out) hg (Kd.S_away HO_10.out (fun _ hk => hk.2))); have n1_ := am (hb); have n2_ := am (ho); clear BK174; clear HB; clear HO_10; clear HO171; have BK174 := n0_; have HB := n1_; have HO177 := n2_; clear n0_ n1_ n2_; clear ho hb hg hat))
           go_roundg k2
           case measure => have := HJ4.out; have := HK2.out; omega
           case rel => exact ⟨(y175), (wrap64 (x11_2 + a3)), (by first | rfl | (simp; done) | (simp [*]; done)), H', ⟨by have := HJ4.out; have := HK2.out; omega⟩, ⟨by (with_reducible repeat (first | apply Kd.S_alloc | apply Kd.S_drewN | apply Kd.S_drew)); exact Kd.S_mono HO177.out (fun _ hk => trivial)⟩, ⟨hz1 HB.out GE174.out⟩⟩
          ·
           rw [if_neg c19] at H
           exact absurd H (by simp)
         ·
          rw [if_neg c17] at H
          exact absurd H (by simp)
        ·
         rw [if_neg c16] at H
         exact absurd H (by simp)
       ·
        rw [if_neg c15] at H
        exact absurd H (by simp)
      ·
       rw [if_neg c13] at H
       have c13b0 : decide (x11_2 < (l1.length : Int)) = false := decide_eq_false c13
       clear c13
       simp only [Option.some.injEq, Prod.mk.injEq] at H
       obtain ⟨rfl, rfl⟩ := H
       go_wp2
       go_ret2
       exact ⟨_, by first | rfl | (simp [errW_none, errW_some] <;> rfl) | (simp [*, errW_none, errW_some] <;> rfl), by (with_reducible repeat (first | apply Kd.S_alloc | apply Kd.S_drewN | apply Kd.S_drew)); exact HO_10.out, hz HB.out⟩

end Go.Proofs.Ytglpnbcockancaa.Q
