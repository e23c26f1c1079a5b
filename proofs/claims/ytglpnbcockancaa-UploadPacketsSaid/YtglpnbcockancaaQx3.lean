/- Made by wip/myprint.py of this session (it drives the kit's printer): what the calls of the Go functions come to, as plain Lean functions, and the row of a law over them; without conditions. -/
import Derived.Test.YtglpnbcockancaaQx0
import Derived.Test.YtglpnbcockancaaQx1
import Derived.Test.YtglpnbcockancaaQx2
namespace Go.Proofs.Ytglpnbcockancaa.Q
open Go.RowKit Go.Proofs.YtglpnbcockancaaW.PrintWords Go.Proofs.YtglpnbcockancaaW.PrintLast Go.Proofs.YtglpnbcockancaaW.PrintMore
attribute [local go_sem] max2_int min2_int max_two min_two max_three min_three max_four min_four   -- for this text's walks alone
set_option linter.unusedVariables false
set_option linter.unusedSimpArgs false

/-! ### upload_Split: function 12 -/
def upload_Split.f (k : Nat) (a0 : Int) (l1 : List Int) (a2 : Int) : Option ((List (S25)) × Int) := (upload_divide.f k a0 l1 0 a2).bind fun bt160 => (some (bt160.1, bt160.2))
theorem upload_Split.mono : ∀ a0 a1 a2 k, LeO (upload_Split.f k a0 a1 a2) (upload_Split.f (k + 1) a0 a1 a2) := by
 intro a0 a1 a2 k
 unfold upload_Split.f
 repeat' first
   | (with_reducible exact upload_divide.mono _ _ _ _ _)
   | (with_reducible exact LeO.refl _)
   | (with_reducible exact LeO.none _)
   | (with_reducible refine LeO.ite ?_ ?_)
   | (with_reducible refine LeO.bind ?_ (fun _ => ?_))
   | exact upload_divide.mono _ _ _ _ _
   | exact LeO.none _
   | refine LeO.ite ?_ ?_
   | refine LeO.bind ?_ (fun _ => ?_)
set_option maxHeartbeats 8000000 in
set_option maxRecDepth 100000 in
theorem upload_Split.calls (k : Nat) (a0 : Int) (A1 : Option Addr) (c1 : Nat) (l1 : List Int) (a2 : Int) (r1 : List (S25)) (r2 : Int) (w : World) (hr1 : Kd.C (Kd.int .u8) w A1 l1.length l1) (hc1 : l1.length ≤ c1) (h : upload_Split.f k a0 l1 a2 = some (r1, r2)) :
  Calls Try.prog 12 #[.int .i64 a0, .slice A1 l1.length c1, .int .i64 a2] w fun e w' => ∃ v0_ : Value, e = .returned (.tuple #[v0_, .int .i64 r2]) ∧ Kd.S k25 25 w' w.heap.size (fun _ => True) v0_ r1 ∧ Below w.heap.size w w' := by
 have HR1 := am hr1
 have HC1 := am hc1
 clear hr1 hc1
 have HB := am (Below.refl w.heap.size w)
 have H : ((upload_divide.f k a0 l1 0 a2).bind fun bt160 => (some (bt160.1, bt160.2))) = some (r1, r2) := h
 clear h
 replace H := Option.bind_eq_some_iff.mp H
 obtain ⟨⟨t160, t161⟩, A40, H⟩ := H
 replace H : (some (t160, t161)) = some (r1, r2) := H
 have A4 := am A40
 clear A40
 simp only [Option.some.injEq, Prod.mk.injEq] at H
 obtain ⟨rfl, rfl⟩ := H
 go_enter Try.func12, Try.ntmps12
 go_wp2_with (first | ((with_reducible refine gate_callee (f := 32) rfl ?_); refine goesL_ (some 11) rfl rfl Try.func32 (by kernel_rfl) rfl #[.int .i64 a0, .slice A1 l1.length c1, .int .i64 0, .int .i64 a2] rfl lz ?_; (with_reducible refine (upload_divide.calls k a0 _ _ l1 0 a2 t160 t161 _ ?side1 ?side2 A4.out).mono ?_); (case side1 => repeat (first | exact HR1.out | (with_reducible refine Kd.C_alloc ?_ _) | (with_reducible refine Kd.C_drewN ?_ _) | (with_reducible refine Kd.C_drew ?_))); (case side2 => exact HC1.out); rintro e w5 ⟨v162, rfl, ho0, hb⟩; refine ⟨_, rfl, ?_⟩; have n0_ := am (Kd.S_lower ho0 (below_size (hz HB.out))); have n1_ := am (below_step (hz HB.out) hb); clear HB; have HO163 := n0_; have HB := n1_; clear n0_ n1_; (try clear hb); (try clear hb2); (try clear hk); (try clear hi); (try clear ho0)))
 go_ret2
 exact ⟨_, by first | rfl | (simp [errW_none, errW_some] <;> rfl) | (simp [*, errW_none, errW_some] <;> rfl), by (with_reducible repeat (first | apply Kd.S_alloc | apply Kd.S_drewN | apply Kd.S_drew)); exact HO163.out, hz HB.out⟩

/-! ### examboardref53_divide: function 33 -/
mutual
def examboardref53_divide.j0 : Nat → Int → List Int → Int → Int → Bool → Option ((List (S25)) × Int)
 | 0, _, _, _, _, _ => none
 | k + 1, x0, x1, x2, x3, x38 => if x38 = true then (some (([] : List (S25)), 3)) else (examboardref53_divide.l0 k x0 x1 x3 ([] : List (S25)) x2)
def examboardref53_divide.l0 : Nat → Int → List Int → Int → List (S25) → Int → Option ((List (S25)) × Int)
 | 0, _, _, _, _, _ => none
 | k + 1, x0, x1, x3, x10, x11 => if x11 < (x1.length : Int) then (if 0 ≤ x11 then (if x11 ≤ (mn (wrap64 (x11 + x3)) (x1.length : Int)) then (if (mn (wrap64 (x11 + x3)) (x1.length : Int)) ≤ (x1.length : Int) then ((examboardref53_Packet.f k x0 x11 ((x1.take ((mn (wrap64 (x11 + x3)) (x1.length : Int)) : Int).toNat).drop (x11 : Int).toNat)).bind fun bt167 => (if x10.length < 2932031007402 then (examboardref53_divide.l0 k x0 x1 x3 (x10 ++ [(⟨bt167.1, bt167.2.1, bt167.2.2.1, bt167.2.2.2.1⟩ : S25)]) (wrap64 (x11 + x3))) else (none))) else (none)) else (none)) else (none)) else (some (x10, 0))
end
def examboardref53_divide.f (k : Nat) (a0 : Int) (l1 : List Int) (a2 : Int) (a3 : Int) : Option ((List (S25)) × Int) := (examboardref53_within.f a0 1 9999999).bind fun t164 => (if t164 = true then ((examboardref53_within.f a3 1 2000).bind fun t165 => (if t165 = true then (if (l1.length : Int) > 1048576 then (examboardref53_divide.j0 k a0 l1 a2 a3 true) else (if a3 = 0 then (none) else (examboardref53_divide.j0 k a0 l1 a2 a3 (decide ((wrap64 (Int.tdiv (wrap64 ((wrap64 ((wrap64 ((l1.length : Int) - a2)) + a3)) - 1)) a3)) > 1024))))) else (examboardref53_divide.j0 k a0 l1 a2 a3 true))) else (examboardref53_divide.j0 k a0 l1 a2 a3 true))
theorem examboardref53_divide.mono_l : ∀ k, (∀ y0 y1 y2 y3 y4, LeO (examboardref53_divide.j0 k y0 y1 y2 y3 y4) (examboardref53_divide.j0 (k + 1) y0 y1 y2 y3 y4)) ∧ (∀ y0 y1 y2 y3 y4, LeO (examboardref53_divide.l0 k y0 y1 y2 y3 y4) (examboardref53_divide.l0 (k + 1) y0 y1 y2 y3 y4))
 | 0 => ⟨fun _ _ _ _ _ r h => by simp [examboardref53_divide.j0] at h, fun _ _ _ _ _ r h => by simp [examboardref53_divide.l0] at h⟩
 | k + 1 => by
  obtain ⟨ih0, ih1⟩ := examboardref53_divide.mono_l k
  refine ⟨?_, ?_⟩
  ·
   intro y0 y1 y2 y3 y4
   unfold examboardref53_divide.j0
   repeat' first
   | (with_reducible exact ih0 _ _ _ _ _)
   | (with_reducible exact ih1 _ _ _ _ _)
   | (with_reducible exact examboardref53_Packet.mono _ _ _ _)
   | (with_reducible exact LeO.refl _)
   | (with_reducible exact LeO.none _)
   | (with_reducible refine LeO.ite ?_ ?_)
   | (with_reducible refine LeO.bind ?_ (fun _ => ?_))
   | exact ih0 _ _ _ _ _
   | exact ih1 _ _ _ _ _
   | exact examboardref53_Packet.mono _ _ _ _
   | exact LeO.none _
   | refine LeO.ite ?_ ?_
   | refine LeO.bind ?_ (fun _ => ?_)
  ·
   intro y0 y1 y2 y3 y4
   unfold examboardref53_divide.l0
   repeat' first
   | (with_reducible exact ih0 _ _ _ _ _)
   | (with_reducible exact ih1 _ _ _ _ _)
   | (with_reducible exact examboardref53_Packet.mono _ _ _ _)
   | (with_reducible exact LeO.refl _)
   | (with_reducible exact LeO.none _)
   | (with_reducible refine LeO.ite ?_ ?_)
   | (with_reducible refine LeO.bind ?_ (fun _ => ?_))
   | exact ih0 _ _ _ _ _
   | exact ih1 _ _ _ _ _
   | exact examboardref53_Packet.mono _ _ _ _
   | exact LeO.none _
   | refine LeO.ite ?_ ?_
   | refine LeO.bind ?_ (fun _ => ?_)
theorem examboardref53_divide.mono : ∀ a0 a1 a2 a3 k, LeO (examboardref53_divide.f k a0 a1 a2 a3) (examboardref53_divide.f (k + 1) a0 a1 a2 a3) := by
 intro a0 a1 a2 a3 k
 obtain ⟨ih0, ih1⟩ := examboardref53_divide.mono_l k
 unfold examboardref53_divide.f
 repeat' first
   | (with_reducible exact ih0 _ _ _ _ _)
   | (with_reducible exact ih1 _ _ _ _ _)
   | (with_reducible exact examboardref53_Packet.mono _ _ _ _)
   | (with_reducible exact LeO.refl _)
   | (with_reducible exact LeO.none _)
   | (with_reducible refine LeO.ite ?_ ?_)
   | (with_reducible refine LeO.bind ?_ (fun _ => ?_))
   | exact ih0 _ _ _ _ _
   | exact ih1 _ _ _ _ _
   | exact examboardref53_Packet.mono _ _ _ _
   | exact LeO.none _
   | refine LeO.ite ?_ ?_
   | refine LeO.bind ?_ (fun _ => ?_)
set_option maxHeartbeats 8000000 in
set_option maxRecDepth 100000 in
theorem examboardref53_divide.calls (k : Nat) (a0 : Int) (A1 : Option Addr) (c1 : Nat) (l1 : List Int) (a2 : Int) (a3 : Int) (r1 : List (S25)) (r2 : Int) (w : World) (hr1 : Kd.C (Kd.int .u8) w A1 l1.length l1) (hc1 : l1.length ≤ c1) (h : examboardref53_divide.f k a0 l1 a2 a3 = some (r1, r2)) :
  Calls Try.prog 33 #[.int .i64 a0, .slice A1 l1.length c1, .int .i64 a2, .int .i64 a3] w fun e w' => ∃ v0_ : Value, e = .returned (.tuple #[v0_, .int .i64 r2]) ∧ Kd.S k25 25 w' w.heap.size (fun _ => True) v0_ r1 ∧ Below w.heap.size w w' := by
 have hu25 := Try.underlying25
 have HR1 := am hr1
 have HC1 := am hc1
 clear hr1 hc1
 have HB := am (Below.refl w.heap.size w)
 have H : ((examboardref53_within.f a0 1 9999999).bind fun t164 => (if t164 = true then ((examboardref53_within.f a3 1 2000).bind fun t165 => (if t165 = true then (if (l1.length : Int) > 1048576 then (examboardref53_divide.j0 k a0 l1 a2 a3 true) else (if a3 = 0 then (none) else (examboardref53_divide.j0 k a0 l1 a2 a3 (decide ((wrap64 (Int.tdiv (wrap64 ((wrap64 ((wrap64 ((l1.length : Int) - a2)) + a3)) - 1)) a3)) > 1024))))) else (examboardref53_divide.j0 k a0 l1 a2 a3 true))) else (examboardref53_divide.j0 k a0 l1 a2 a3 true))) = some (r1, r2) := h
 clear h
 have HC5 := am H
 clear H
 go_enter Try.func33, Try.ntmps33
 go_upto_region 1 with (fail)
 go_cut [38] (fun v38 wc => ∃ (kq : Nat) (x38_4 : Bool), v38 = .bool x38_4 ∧ Aside0 (examboardref53_divide.j0 kq a0 l1 a2 a3 x38_4 = some (r1, r2)) ∧ Aside0 (kq ≤ k) ∧ Aside0 (Below w.heap.size w wc))
 case first =>
  have H := HC5.out
  clear HC5
  replace H := Option.bind_eq_some_iff.mp H
  obtain ⟨t164, A60, H⟩ := H
  replace H : (if t164 = true then ((examboardref53_within.f a3 1 2000).bind fun t165 => (if t165 = true then (if (l1.length : Int) > 1048576 then (examboardref53_divide.j0 k a0 l1 a2 a3 true) else (if a3 = 0 then (none) else (examboardref53_divide.j0 k a0 l1 a2 a3 (decide ((wrap64 (Int.tdiv (wrap64 ((wrap64 ((wrap64 ((l1.length : Int) - a2)) + a3)) - 1)) a3)) > 1024))))) else (examboardref53_divide.j0 k a0 l1 a2 a3 true))) else (examboardref53_divide.j0 k a0 l1 a2 a3 true)) = some (r1, r2) := H
  have A6 := am A60
  clear A60
  by_cases c7 : t164 = true
  ·
   subst c7
   have H1 : ((examboardref53_within.f a3 1 2000).bind fun t165 => (if t165 = true then (if (l1.length : Int) > 1048576 then (examboardref53_divide.j0 k a0 l1 a2 a3 true) else (if a3 = 0 then (none) else (examboardref53_divide.j0 k a0 l1 a2 a3 (decide ((wrap64 (Int.tdiv (wrap64 ((wrap64 ((wrap64 ((l1.length : Int) - a2)) + a3)) - 1)) a3)) > 1024))))) else (examboardref53_divide.j0 k a0 l1 a2 a3 true))) = some (r1, r2) := by rw [if_pos rfl] at H; exact H
   clear H
   have H := H1
   clear H1
   replace H := Option.bind_eq_some_iff.mp H
   obtain ⟨t165, A80, H⟩ := H
   replace H : (if t165 = true then (if (l1.length : Int) > 1048576 then (examboardref53_divide.j0 k a0 l1 a2 a3 true) else (if a3 = 0 then (none) else (examboardref53_divide.j0 k a0 l1 a2 a3 (decide ((wrap64 (Int.tdiv (wrap64 ((wrap64 ((wrap64 ((l1.length : Int) - a2)) + a3)) - 1)) a3)) > 1024))))) else (examboardref53_divide.j0 k a0 l1 a2 a3 true)) = some (r1, r2) := H
   have A8 := am A80
   clear A80
   by_cases c9 : t165 = true
   ·
    subst c9
    have H1 : (if (l1.length : Int) > 1048576 then (examboardref53_divide.j0 k a0 l1 a2 a3 true) else (if a3 = 0 then (none) else (examboardref53_divide.j0 k a0 l1 a2 a3 (decide ((wrap64 (Int.tdiv (wrap64 ((wrap64 ((wrap64 ((l1.length : Int) - a2)) + a3)) - 1)) a3)) > 1024))))) = some (r1, r2) := by rw [if_pos rfl] at H; exact H
    clear H
    have H := H1
    clear H1
    by_cases c10 : (l1.length : Int) > 1048576
    ·
     rw [if_pos c10] at H
     have c10b0 : decide (1048576 < (l1.length : Int)) = true := decide_eq_true c10
     have c10b1 : decide (1048576 < l1.length) = true := decide_eq_true (by omega)
     clear c10
     (first | rw [c10b0] | (simp only [i64_w, i32_w]; rw [c10b0]) | skip)
     have H' := am H
     clear H
     go_wp2_with (first | ((with_reducible refine gate_callee (f := 35) rfl ?_); refine goesL_ (some 15) rfl rfl Try.func35 (by kernel_rfl) rfl #[.int .i64 a0, .int .i64 1, .int .i64 9999999] rfl lz ?_; (with_reducible refine (examboardref53_within.calls a0 1 9999999 true _ A6.out).mono ?_); rintro e w' ⟨rfl, ⟨nd, rfl⟩⟩; refine ⟨_, rfl, ?_⟩) | (go_at_call 35; (with_reducible refine (examboardref53_within.calls a3 1 2000 true _ A8.out).mono ?_); rintro e w' ⟨rfl, ⟨nd, rfl⟩⟩))
     go_meet
     case rel => exact ⟨_, (true), (by first | rfl | (simp; done) | (simp [*]; done)), H', ⟨by first | omega | exact Nat.le_refl _⟩, ⟨hz HB.out⟩⟩
    ·
     rw [if_neg c10] at H
     have c10b0 : decide (1048576 < (l1.length : Int)) = false := decide_eq_false c10
     have c10b1 : decide (1048576 < l1.length) = false := decide_eq_false (by omega)
     clear c10
     (first | rw [c10b0] | (simp only [i64_w, i32_w]; rw [c10b0]) | skip)
     by_cases c11 : a3 = 0
     ·
      rw [if_pos c11] at H
      exact absurd H (by simp)
     ·
      rw [if_neg c11] at H
      have c11b0 : (a3 == 0) = false := beq_eq_false_iff_ne.mpr c11
      have c11b1 : (a3 != 0) = true := bne_iff_ne.mpr c11
      have H' := am H
      clear H
      go_wp2_with (first | ((with_reducible refine gate_callee (f := 35) rfl ?_); refine goesL_ (some 15) rfl rfl Try.func35 (by kernel_rfl) rfl #[.int .i64 a0, .int .i64 1, .int .i64 9999999] rfl lz ?_; (with_reducible refine (examboardref53_within.calls a0 1 9999999 true _ A6.out).mono ?_); rintro e w' ⟨rfl, ⟨nd, rfl⟩⟩; refine ⟨_, rfl, ?_⟩) | (go_at_call 35; (with_reducible refine (examboardref53_within.calls a3 1 2000 true _ A8.out).mono ?_); rintro e w' ⟨rfl, ⟨nd, rfl⟩⟩))
      go_meet
      case rel => exact ⟨_, (decide ((wrap64 (Int.tdiv (wrap64 ((wrap64 ((wrap64 ((l1.length : Int) - a2)) + a3)) - 1)) a3)) > 1024)), (by first | rfl | (simp; done) | (simp [*]; done)), H', ⟨by first | omega | exact Nat.le_refl _⟩, ⟨hz HB.out⟩⟩
   ·
    replace c9 := Bool.eq_false_iff.mpr c9
    subst c9
    have H1 : (examboardref53_divide.j0 k a0 l1 a2 a3 true) = some (r1, r2) := by rw [if_neg (show ¬ (false = true) by decide)] at H; exact H
    clear H
    have H := H1
    clear H1
    have H' := am H
    clear H
    go_wp2_with (first | ((with_reducible refine gate_callee (f := 35) rfl ?_); refine goesL_ (some 15) rfl rfl Try.func35 (by kernel_rfl) rfl #[.int .i64 a0, .int .i64 1, .int .i64 9999999] rfl lz ?_; (with_reducible refine (examboardref53_within.calls a0 1 9999999 true _ A6.out).mono ?_); rintro e w' ⟨rfl, ⟨nd, rfl⟩⟩; refine ⟨_, rfl, ?_⟩) | (go_at_call 35; (with_reducible refine (examboardref53_within.calls a3 1 2000 false _ A8.out).mono ?_); rintro e w' ⟨rfl, ⟨nd, rfl⟩⟩))
    go_meet
    case rel => exact ⟨_, (true), (by first | rfl | (simp; done) | (simp [*]; done)), H', ⟨by first | omega | exact Nat.le_refl _⟩, ⟨hz HB.out⟩⟩
  ·
   replace c7 := Bool.eq_false_iff.mpr c7
   subst c7
   have H1 : (examboardref53_divide.j0 k a0 l1 a2 a3 true) = some (r1, r2) := by rw [if_neg (show ¬ (false = true) by decide)] at H; exact H
   clear H
   have H := H1
   clear H1
   have H' := am H
   clear H
   go_wp2_with (first | ((with_reducible refine gate_callee (f := 35) rfl ?_); refine goesL_ (some 15) rfl rfl Try.func35 (by kernel_rfl) rfl #[.int .i64 a0, .int .i64 1, .int .i64 9999999] rfl lz ?_; (with_reducible refine (examboardref53_within.calls a0 1 9999999 false _ A6.out).mono ?_); rintro e w' ⟨rfl, ⟨nd, rfl⟩⟩; refine ⟨_, rfl, ?_⟩))
   go_meet
   case rel => exact ⟨_, (true), (by first | rfl | (simp; done) | (simp [*]; done)), H', ⟨by first | omega | exact Nat.le_refl _⟩, ⟨hz HB.out⟩⟩
 case rest =>
  clear HC5
  try clear c1
  try clear p2
  try clear c3
  try clear p6
  try clear c7
  try clear c9
  try clear c10
  try clear c10b0
  try clear c10b1
  try clear c11
  try clear c11b0
  try clear c11b1
  obtain ⟨kq, x38_4, rfl, HA, HJ4, HB⟩ := hcut
  cases kq with
  | zero => exact absurd HA.out (by simp [examboardref53_divide.j0])
  | succ kj4 =>
   have H := HA.out
   clear HA
   simp only [examboardref53_divide.j0] at H
   by_cases c12 : x38_4 = true
   ·
    subst c12
    have H1 : (some (([] : List (S25)), 3)) = some (r1, r2) := by rw [if_pos rfl] at H; exact H
    clear H
    have H := H1
    clear H1
    simp only [Option.some.injEq, Prod.mk.injEq] at H
    obtain ⟨rfl, rfl⟩ := H
    go_wp2
    go_ret2
    exact ⟨_, by first | rfl | (simp [errW_none, errW_some] <;> rfl) | (simp [*, errW_none, errW_some] <;> rfl), by first | exact Kd.S_nil _ _ _ _ _ | exact Kd.N_nil _ _ _ _ _ | exact Kd.V_nil _ _ _ _ _ | exact Kd.Q_nil _ _ _ _ _ | exact Kd.R_nil _ _ _ _ _, hz HB.out⟩
   ·
    replace c12 := Bool.eq_false_iff.mpr c12
    subst c12
    have H1 : (examboardref53_divide.l0 kj4 a0 l1 a3 ([] : List (S25)) a2) = some (r1, r2) := by rw [if_neg (show ¬ (false = true) by decide)] at H; exact H
    clear H
    have H := H1
    clear H1
    have H' := am H
    clear H
    go_wp2
    go_loopg [10, 11] kj4 (fun kq v10 v11 w' => ∃ (x10_2 : List (S25)) (x11_2 : Int), v11 = .int .i64 x11_2 ∧ Aside0 (examboardref53_divide.l0 kq a0 l1 a3 x10_2 x11_2 = some (r1, r2)) ∧ Aside0 (kq ≤ kj4) ∧ Aside0 (Kd.S k25 25 w' w.heap.size (fun _ => True) v10 x10_2) ∧ Aside0 (Below w.heap.size w w'))
    case atStart => exact ⟨(([] : List (S25))), (a2), (by first | rfl | (simp; done) | (simp [*]; done)), H', ⟨Nat.le_refl _⟩, ⟨by first | exact Kd.S_nil _ _ _ _ _ | exact Kd.N_nil _ _ _ _ _ | exact Kd.V_nil _ _ _ _ _ | exact Kd.Q_nil _ _ _ _ _ | exact Kd.R_nil _ _ _ _ _⟩, ⟨hz HB.out⟩⟩
    case round =>
     clear H'
     try clear c1
     try clear p2
     try clear c3
     try clear p6
     try clear c7
     try clear c9
     try clear c10
     try clear c10b0
     try clear c10b1
     try clear c11
     try clear c11b0
     try clear c11b1
     try clear c12
     try clear p2
     try clear p6
     obtain ⟨x10_2, x11_2, rfl, HA, HK2, HO_10, HB⟩ := hrel
     cases gk with
     | zero => exact absurd HA.out (by simp [examboardref53_divide.l0])
     | succ k2 =>
      have H := HA.out
      clear HA
      simp only [examboardref53_divide.l0] at H
      by_cases c13 : x11_2 < (l1.length : Int)
      ·
       rw [if_pos c13] at H
       have c13b0 : decide (x11_2 < (l1.length : Int)) = true := decide_eq_true c13
       clear c13
       obtain ⟨ji14, hji14⟩ : ∃ j_ : Int, (mn (wrap64 (x11_2 + a3)) (l1.length : Int)) = j_ := ⟨_, rfl⟩
       replace H : (if 0 ≤ x11_2 then (if x11_2 ≤ (ji14) then (if (ji14) ≤ (l1.length : Int) then ((examboardref53_Packet.f k2 a0 x11_2 ((l1.take ((ji14) : Int).toNat).drop (x11_2 : Int).toNat)).bind fun bt167 => (if x10_2.length < 2932031007402 then (examboardref53_divide.l0 k2 a0 l1 a3 (x10_2 ++ [(⟨bt167.1, bt167.2.1, bt167.2.2.1, bt167.2.2.2.1⟩ : S25)]) (wrap64 (x11_2 + a3))) else (none))) else (none)) else (none)) else (none)) = some (r1, r2) := by first | (rw [hji14] at H; exact H) | (simp only [hji14] at H ⊢; exact H)
       have hji14_ : (if (l1.length : Int) < (wrap64 (x11_2 + a3)) then (l1.length : Int) else (wrap64 (x11_2 + a3))) = ji14 := hji14
       by_cases c15 : 0 ≤ x11_2
       ·
        rw [if_pos c15] at H
        have c15b0 := eq_true c15
        have c15b1 : decide (0 ≤ x11_2) = true := decide_eq_true c15
        clear c15
        by_cases c16 : x11_2 ≤ (ji14)
        ·
         rw [if_pos c16] at H
         have c16b0 := eq_true c16
         have c16b1 : decide (x11_2 ≤ (ji14)) = true := decide_eq_true c16
         clear c16
         by_cases c17 : (ji14) ≤ (l1.length : Int)
         ·
          rw [if_pos c17] at H
          have c17b0 := eq_true c17
          have c17b1 : decide ((ji14) ≤ (l1.length : Int)) = true := decide_eq_true c17
          clear c17
          replace H := Option.bind_eq_some_iff.mp H
          obtain ⟨⟨t167, t168, t169, t172, t173⟩, A180, H⟩ := H
          replace H : (if x10_2.length < 2932031007402 then (examboardref53_divide.l0 k2 a0 l1 a3 (x10_2 ++ [(⟨t167, t168, t169, t172⟩ : S25)]) (wrap64 (x11_2 + a3))) else (none)) = some (r1, r2) := H
          have A18 := am A180
          clear A180
          by_cases c19 : x10_2.length < 2932031007402
          ·
           rw [if_pos c19] at H
           have LMc19 := am c19
           clear c19
           obtain ⟨y175, hy175⟩ : ∃ y_ : List (S25), y_ = (x10_2 ++ [(⟨t167, t168, t169, t172⟩ : S25)]) := ⟨_, rfl⟩
           replace H : (examboardref53_divide.l0 k2 a0 l1 a3 y175 (wrap64 (x11_2 + a3))) = some (r1, r2) := by first | (rw [hy175]; with_reducible exact H) | (have H2_ := (Option.bind_some _ _).symm.trans H; rw [hy175]; with_reducible exact H2_) | (have H2_ := (Option.bind_some _ _).symm.trans H; with_reducible exact H2_) | with_reducible exact H | (rw [hy175]; exact H) | exact H
           have Ny175 := am hy175
           clear hy175
           have H' := am H
           clear H
           obtain ⟨i020, hi020, _, hsz20, _⟩ := info_parts info5
           obtain ⟨A20, hcut20, hA20, hC20⟩ := print_mid_of (P := Try.prog) (Value.int .u8) 0 22 5 .i64 .i64 Try.underlying22 hi020 hsz20 A1 c1 l1 x11_2 (ji14) (of_decide_eq_true az) (by first | omega | exact of_decide_eq_true az) (of_decide_eq_true az) HC1.out
           have HR166 := am (Kd.C_of_reads (h1 := fun _ => rfl) (hA20 _ (Kd.reads_of_C HR1.out)))
           have HC166 := am hC20
           clear hA20 hC20 hi020 hsz20
           go_wp2_with (first | ((with_reducible refine gate_callee (f := 10) rfl ?_); refine goesL_ (some 59) rfl rfl Try.func10 (by kernel_rfl) rfl #[.int .i64 a0, .int .i64 x11_2, .slice A20 ((l1.take ((ji14) : Int).toNat).drop (x11_2 : Int).toNat).length (c1 - x11_2.toNat)] rfl (by (try simp only [List.map_toArray, List.map_cons, List.map_nil]); first | done | (rw [show ((l1.take ((ji14) : Int).toNat).drop (x11_2 : Int).toNat).length = ((ji14).toNat - x11_2.toNat) from (by rw [List.length_drop, List.length_take]; have h_ : ((ji14) : Int) ≤ (l1.length : Int) := of_decide_eq_true az; omega)] <;> rfl) | (simp only [hji14]; rfl) | rfl | (simp only [List.length_drop, List.length_take]; rfl)) ?_; (with_reducible refine (examboardref53_Packet.calls k2 a0 x11_2 _ _ ((l1.take ((ji14) : Int).toNat).drop (x11_2 : Int).toNat) t167 t168 t169 t172 t173 _ ?side1 ?side2 A18.out).mono ?_); (case side1 => exact cz (Kd.C_below HR166.out HB.out)); (case side2 => exact HC166.out); rintro e w21 ⟨v170, rfl, ho0, hb⟩; refine ⟨_, rfl, ?_⟩; have n0_ := am (Kd.S_elder' (sz HO_10.out) (Kd.R_base ho0) hb); have n1_ := am (Kd.R_lower ho0 (below_size (hz HB.out))); have n2_ := am (below_step (hz HB.out) hb); clear HO_10; clear HB; have HO_10 := n0_; have HO171 := n1_; have HB := n2_; clear n0_ n1_ n2_; (try clear hb); (try clear hb2); (try clear hk); (try clear hi); (try clear ho0)) | ((with_reducible refine gate_dst (N := 12) rfl ?_); (try (refine gate_guard (by rfl) ?_; dsimp only)); refine box_event ?hg (N := 12) ?hd (cs := #[.int .i64 0, .int .i64 0, .slice none 0 0, .int .u64 0]) (t := 25) ?hr ?_; (case hd => rfl); (case hg => rfl); (case hr => exact gz); intro gb174 hg w22 hbox hb; have n0_ := am (Kd.S_below (Kd.S_elderB (sz HO_10.out) gb174 (Nat.le_of_eq hg.symm)) hb); have n1_ := am (Kd.R_below (rz HO171.out) hb); have n2_ := am (below_step (hz HB.out) hb); have n3_ := am (hbox); have n4_ := am ((bs hg (hz HB.out) : w.heap.size ≤ gb174)); have n5_ := am ((bs hg (hz HB.out) : w.heap.size ≤ gb174)); clear HO_10; clear HO171; clear HB; have HO_10 := n0_; have HO171 := n1_; have HB := n2_; have BK174 := n3_; have GW174 := n4_; have GE174 := n5_; clear n0_ n1_ n2_ n3_ n4_ n5_; clear hb hbox hg; obtain ⟨hcz23_0, hcz23_1, hcz23_2, hcz23_3⟩ := cs4 BK174.out; obtain ⟨hfz23_0, hfz23_1, hfz23_2, hfz23_3⟩ := fs4 BK174.out; obtain ⟨Ao24, co24, eo24⟩ := Kd.R_slice HO171.out; subst eo24) | ((with_reducible refine gate_store (t := 25) (p := 12) rfl ?_); refine store_event (t := 25) (p := 12) (v := ?vo_w25) (w1 := ((((w22.setCell ⟨gb174, 0, none⟩ (.int .i64 t167)).setCell ⟨gb174, 1, none⟩ (.int .i64 t168)).setCell ⟨gb174, 2, none⟩ (.slice Ao24 t169.length co24)).setCell ⟨gb174, 3, none⟩ (.int .u64 t172))) ?hg ?ho ?hn ?hr ?_; (case ho => rfl); (case hg => rfl); (case hn => rfl); (case hr => exact gz); intro w25 hw; have n0_ : Aside0 (Kd.S k25 25 w25 w.heap.size (fun k_ => some k_ ≠ (.slice Ao24 t169.length co24 : Value).ownBlock ∧ k_ ≠ gb174) u10 x10_2) := ⟨(by rw [hw]; exact (sz (Kd.S_mono (Kd.S_far (p := ⟨gb174, 3, none⟩) (Kd.S_far (p := ⟨gb174, 2, none⟩) (Kd.S_far (p := ⟨gb174, 1, none⟩) (Kd.S_far (p := ⟨gb174, 0, none⟩) (Kd.S_mono HO_10.out (fun k_ hk => (⟨hk, hk.2⟩ : _ ∧ k_ ≠ gb174))) (fun _ hk => hk.2) (.int .i64 t167)) (fun _ hk => hk.2) (.int .i64 t168)) (fun _ hk => hk.2) (.slice Ao24 t169.length co24)) (fun _ hk => hk.2) (.int .u64 t172)) (fun _ hk => ⟨hk.1.1.2, hk.1.2⟩))))⟩; have n1_ : Aside0 (Kd.R (Kd.int .u8) 5 w25 w.heap.size (fun _ => True) (.slice Ao24 t169.length co24) t169) := ⟨(by rw [hw]; exact (rz (Kd.R_mono (rfg4 HO171.out BK174.out) (fun _ hk => trivial))))⟩; have n2_ : Aside0 (w25.heap[gb174]? = some (.cells #[.int .i64 t167, .int .i64 t168, .slice Ao24 t169.length co24, .int .u64 t172] 25 (0, 0))) := ⟨(by rw [hw]; exact (by (with_reducible repeat (first | refine blk_drewN ?_ _ | refine blk_drew ?_ | refine blk_alloc ?_ _)); refine blk_put (cs := #[.int .i64 t167, .int .i64 t168, .slice Ao24 t169.length co24, .int .u64 0]) ?_ 3 _ rfl; (with_reducible repeat (first | refine blk_drewN ?_ _ | refine blk_drew ?_ | refine blk_alloc ?_ _)); refine blk_put (cs := #[.int .i64 t167, .int .i64 t168, .slice none 0 0, .int .u64 0]) ?_ 2 _ rfl; (with_reducible repeat (first | refine blk_drewN ?_ _ | refine blk_drew ?_ | refine blk_alloc ?_ _)); refine blk_put (cs := #[.int .i64 t167, .int .i64 0, .slice none 0 0, .int .u64 0]) ?_ 1 _ rfl; (with_reducible repeat (first | refine blk_drewN ?_ _ | refine blk_drew ?_ | refine blk_alloc ?_ _)); refine blk_put (cs := #[.int .i64 0, .int .i64 0, .slice none 0 0, .int .u64 0]) ?_ 0 _ rfl; (with_reducible repeat (first | refine blk_drewN ?_ _ | refine blk_drew ?_ | refine blk_alloc ?_ _)); exact BK174.out))⟩; have n3_ : Aside0 (Below w.heap.size w w25) := ⟨(by rw [hw]; exact (hz1 HB.out GE174.out))⟩; clear hw; clear HO_10; clear HO171; clear BK174; clear HB; have HO_10 := n0_; have HO171 := n1_; have BK174 := n2_; have HB := n3_; clear n0_ n1_ n2_ n3_; obtain ⟨hcz26_0, hcz26_1, hcz26_2, hcz26_3⟩ := cs4 BK174.out; obtain ⟨hfz26_0, hfz26_1, hfz26_2, hfz26_3⟩ := fs4 BK174.out) | ((with_reducible refine gate_builtin (b := .append) (xs := #[.tmp 62, .tmp 64]) rfl ?_); (try (refine gate_guard (by rfl) ?_; dsimp only)); at_builtin; refine Kd.S_append k25 (w0 := w) w.heap.size rfl (.tmp 62) (.tmp 64) 30 25 (.agg #[(.int .i64 0), (.int .i64 0), (.slice none 0 0), (.int .u64 0)]) 48 rfl Try.underlying30 info25 rfl (by decide) (by omega) u10 x10_2 (⟨t167, t168, t169, t172⟩ : S25) [.int .i64 t167, .int .i64 t168, .slice Ao24 t169.length co24, .int .u64 t172] (fun k_ => k_ ≠ gb174) (fun k_ => some k_ = (.slice Ao24 t169.length co24 : Value).ownBlock) rfl rfl ?aP (fun k_ hk_ => ((Kd.R_mono (ok' := fun k_ => ((fun k_ => k_ ≠ gb174)) k_ ∧ some k_ ≠ (u10 : Value).ownBlock) (Kd.R_types (Kd.R_apart' (HO171.out) (Kd.S_typed HO_10.out) (by decide)) BK174.out (by decide)) (fun k_ hk => ⟨hk.2, hk.1.2⟩))).1 k_ hk_.symm) ?aF ?aO ?aB ?aS ?aL ?_; (case aP => exact k25_mkM _ _ _ (⟨t167, t168, t169, t172⟩ : S25) (Kd.R_mono (Kd.R_tight rfl (Kd.R_mono (ok' := fun k_ => ((fun k_ => k_ ≠ gb174)) k_ ∧ some k_ ≠ (u10 : Value).ownBlock) (Kd.R_types (Kd.R_apart' (HO171.out) (Kd.S_typed HO_10.out) (by decide)) BK174.out (by decide)) (fun k_ hk => ⟨hk.2, hk.1.2⟩))) (fun _ h_ => h_))); (case aB => exact (hz1 HB.out GE174.out)); (case aF => exact (fun k_ hk => Kd.freshB (g := gb174) (o := .cells #[.int .i64 t167, .int .i64 t168, .slice Ao24 t169.length co24, .int .u64 t172] 25 (0, 0)) (bz BK174.out) k_ hk)); (case aO => exact (sz (Kd.S_mono HO_10.out (fun k_ hk => ⟨hk.2, fun e_ => hk.1 e_⟩)))); (case aS => exact (below_size (hz1 HB.out GE174.out))); (case aL => have := LMc19.out; omega); intro v176 w27 ho hb hg hat; rw [← Ny175.out] at ho; have n0_ := am (blk_grown (bz BK174.out) hg (Kd.S_away HO_10.out (fun _ hk => hk.2))); have n1_ := am (hb); have n2_ := am (ho); clear BK174; clear HB; clear HO_10; clear HO171; have BK174 := n0_; have HB := n1_; have HO177 := n2_; clear n0_ n1_ n2_; clear ho hb hg hat))
           go_roundg k2
           case measure => have := HJ4.out; have := HK2.out; omega
           case rel => exact ⟨(y175), (wrap64 (x11_2 + a3)), (by first | rfl | (simp; done) | (simp [*]; done)), H', ⟨by have := HJ4.out; have := HK2.out; omega⟩, ⟨by (with_reducible repeat (first | apply Kd.S_alloc | apply Kd.S_drewN | apply Kd.S_drew)); exact Kd.S_mono HO177.out (fun _ hk => trivial)⟩, ⟨hz1 HB.out GE174.out⟩⟩
          ·
           rw [if_neg c19] at H
           exact absurd H (by simp)
         ·
          rw [if_neg c17] at H
          exact absurd H (by simp)
        ·
         rw [if_neg c16] at H
         exact absurd H (by simp)
       ·
        rw [if_neg c15] at H
        exact absurd H (by simp)
      ·
       rw [if_neg c13] at H
       have c13b0 : decide (x11_2 < (l1.length : Int)) = false := decide_eq_false c13
       clear c13
       simp only [Option.some.injEq, Prod.mk.injEq] at H
       obtain ⟨rfl, rfl⟩ := H
       go_wp2
       go_ret2
       exact ⟨_, by first | rfl | (simp [errW_none, errW_some] <;> rfl) | (simp [*, errW_none, errW_some] <;> rfl), by (with_reducible repeat (first | apply Kd.S_alloc | apply Kd.S_drewN | apply Kd.S_drew)); exact HO_10.out, hz HB.out⟩

/-! ### examboardref53_Split: function 13 -/
def examboardref53_Split.f (k : Nat) (a0 : Int) (l1 : List Int) (a2 : Int) : Option ((List (S25)) × Int) := (examboardref53_divide.f k a0 l1 0 a2).bind fun bt178 => (some (bt178.1, bt178.2))
theorem examboardref53_Split.mono : ∀ a0 a1 a2 k, LeO (examboardref53_Split.f k a0 a1 a2) (examboardref53_Split.f (k + 1) a0 a1 a2) := by
 intro a0 a1 a2 k
 unfold examboardref53_Split.f
 repeat' first
   | (with_reducible exact examboardref53_divide.mono _ _ _ _ _)
   | (with_reducible exact LeO.refl _)
   | (with_reducible exact LeO.none _)
   | (with_reducible refine LeO.ite ?_ ?_)
   | (with_reducible refine LeO.bind ?_ (fun _ => ?_))
   | exact examboardref53_divide.mono _ _ _ _ _
   | exact LeO.none _
   | refine LeO.ite ?_ ?_
   | refine LeO.bind ?_ (fun _ => ?_)
set_option maxHeartbeats 8000000 in
set_option maxRecDepth 100000 in
theorem examboardref53_Split.calls (k : Nat) (a0 : Int) (A1 : Option Addr) (c1 : Nat) (l1 : List Int) (a2 : Int) (r1 : List (S25)) (r2 : Int) (w : World) (hr1 : Kd.C (Kd.int .u8) w A1 l1.length l1) (hc1 : l1.length ≤ c1) (h : examboardref53_Split.f k a0 l1 a2 = some (r1, r2)) :
  Calls Try.prog 13 #[.int .i64 a0, .slice A1 l1.length c1, .int .i64 a2] w fun e w' => ∃ v0_ : Value, e = .returned (.tuple #[v0_, .int .i64 r2]) ∧ Kd.S k25 25 w' w.heap.size (fun _ => True) v0_ r1 ∧ Below w.heap.size w w' := by
 have HR1 := am hr1
 have HC1 := am hc1
 clear hr1 hc1
 have HB := am (Below.refl w.heap.size w)
 have H : ((examboardref53_divide.f k a0 l1 0 a2).bind fun bt178 => (some (bt178.1, bt178.2))) = some (r1, r2) := h
 clear h
 replace H := Option.bind_eq_some_iff.mp H
 obtain ⟨⟨t178, t179⟩, A40, H⟩ := H
 replace H : (some (t178, t179)) = some (r1, r2) := H
 have A4 := am A40
 clear A40
 simp only [Option.some.injEq, Prod.mk.injEq] at H
 obtain ⟨rfl, rfl⟩ := H
 go_enter Try.func13, Try.ntmps13
 go_wp2_with (first | ((with_reducible refine gate_callee (f := 33) rfl ?_); refine goesL_ (some 11) rfl rfl Try.func33 (by kernel_rfl) rfl #[.int .i64 a0, .slice A1 l1.length c1, .int .i64 0, .int .i64 a2] rfl lz ?_; (with_reducible refine (examboardref53_divide.calls k a0 _ _ l1 0 a2 t178 t179 _ ?side1 ?side2 A4.out).mono ?_); (case side1 => repeat (first | exact HR1.out | (with_reducible refine Kd.C_alloc ?_ _) | (with_reducible refine Kd.C_drewN ?_ _) | (with_reducible refine Kd.C_drew ?_))); (case side2 => exact HC1.out); rintro e w5 ⟨v180, rfl, ho0, hb⟩; refine ⟨_, rfl, ?_⟩; have n0_ := am (Kd.S_lower ho0 (below_size (hz HB.out))); have n1_ := am (below_step (hz HB.out) hb); clear HB; have HO181 := n0_; have HB := n1_; clear n0_ n1_; (try clear hb); (try clear hb2); (try clear hk); (try clear hi); (try clear ho0)))
 go_ret2
 exact ⟨_, by first | rfl | (simp [errW_none, errW_some] <;> rfl) | (simp [*, errW_none, errW_some] <;> rfl), by (with_reducible repeat (first | apply Kd.S_alloc | apply Kd.S_drewN | apply Kd.S_drew)); exact HO181.out, hz HB.out⟩

/-! ### upload_New: function 14 -/
def upload_New.f (a0 : Int) : Option (Int × List Int × (List (S25)) × Int) := (upload_number.f a0).bind fun t183 => (if t183 = true then (some (a0, ([] : List Int), ([] : List (S25)), 0)) else (some (0, ([] : List Int), ([] : List (S25)), 3)))
set_option maxHeartbeats 8000000 in
set_option maxRecDepth 100000 in
theorem upload_New.calls (a0 : Int) (r1 : Int) (r2 : List Int) (r3 : List (S25)) (r4 : Int) (w : World) (h : upload_New.f a0 = some (r1, r2, r3, r4)) :
  Calls Try.prog 14 #[.int .i64 a0] w fun e w' => ∃ v1_ v2_ : Value, e = .returned (.tuple #[.agg #[.int .i64 r1, v1_, v2_], .int .i64 r4]) ∧ Kd.R (Kd.int .u8) 5 w' w.heap.size (fun _ => True) v1_ r2 ∧ Kd.S k25 25 w' w.heap.size (fun k_ => some k_ ≠ (v1_ : Value).ownBlock) v2_ r3 ∧ Below w.heap.size w w' := by
 have hu34 := Try.underlying34
 have HB := am (Below.refl w.heap.size w)
 have H : ((upload_number.f a0).bind fun t183 => (if t183 = true then (some (a0, ([] : List Int), ([] : List (S25)), 0)) else (some (0, ([] : List Int), ([] : List (S25)), 3)))) = some (r1, r2, r3, r4) := h
 clear h
 replace H := Option.bind_eq_some_iff.mp H
 obtain ⟨t183, A20, H⟩ := H
 replace H : (if t183 = true then (some (a0, ([] : List Int), ([] : List (S25)), 0)) else (some (0, ([] : List Int), ([] : List (S25)), 3))) = some (r1, r2, r3, r4) := H
 have A2 := am A20
 clear A20
 by_cases c3 : t183 = true
 ·
  subst c3
  have H1 : (some (a0, ([] : List Int), ([] : List (S25)), 0)) = some (r1, r2, r3, r4) := by rw [if_pos rfl] at H; exact H
  clear H
  have H := H1
  clear H1
  simp only [Option.some.injEq, Prod.mk.injEq] at H
  obtain ⟨rfl, rfl, rfl, rfl⟩ := H
  go_enter Try.func14, Try.ntmps14
  go_wp2_with (first | ((with_reducible refine gate_dst (N := 2) rfl ?_); refine box_event ?hg (N := 2) ?hd (cs := #[.int .i64 0, .slice none 0 0, .slice none 0 0]) (t := 34) ?hr ?_; (case hd => rfl); (case hg => rfl); (case hr => exact gz); intro gb182 hg w4 hbox hb; have n0_ := am (below_step (hz HB.out) hb); have n1_ := am (hbox); have n2_ := am ((bs hg (hz HB.out) : w.heap.size ≤ gb182)); have n3_ := am ((bs hg (hz HB.out) : w.heap.size ≤ gb182)); clear HB; have HB := n0_; have BK182 := n1_; have GW182 := n2_; have GE182 := n3_; clear n0_ n1_ n2_ n3_; clear hb hbox hg) | ((with_reducible refine gate_callee (f := 34) rfl ?_); refine goesL_ (some 5) rfl rfl Try.func34 (by kernel_rfl) rfl #[.int .i64 a0] rfl lz ?_; (with_reducible refine (upload_number.calls a0 true _ A2.out).mono ?_); rintro e w' ⟨rfl, ⟨nd, rfl⟩⟩; refine ⟨_, rfl, ?_⟩; (try (rw [drewN_self w4]; generalize hq_ : World.drewN w4 _ = w4; have n0_ : Aside0 (w4.heap[gb182]? = some (.cells #[.int .i64 0, .slice none 0 0, .slice none 0 0] 34 (0, 0))) := ⟨by rw [← hq_]; exact (bz BK182.out)⟩; have n1_ : Aside0 (Below w.heap.size w w4) := ⟨by rw [← hq_]; exact (hz1 HB.out GE182.out)⟩; clear BK182 HB hq_; have BK182 := n0_; have HB := n1_; clear n0_ n1_)); obtain ⟨hcz5_0, hcz5_1, hcz5_2⟩ := cs3 BK182.out; obtain ⟨hfz5_0, hfz5_1, hfz5_2⟩ := fs3 BK182.out))
  refine bodyPost_ret (results_ct rfl _ _ gb182 34 #[.int .i64 a0, .slice none 0 0, .slice none 0 0] (0, 0) _ rfl (by (with_reducible repeat (first | refine blk_drewN ?_ _ | refine blk_drew ?_ | refine blk_alloc ?_ _)); refine blk_put (cs := #[.int .i64 a0, .slice none 0 0, .slice none 0 0]) ?_ 2 _ rfl; (with_reducible repeat (first | refine blk_drewN ?_ _ | refine blk_drew ?_ | refine blk_alloc ?_ _)); refine blk_put (cs := #[.int .i64 a0, .slice none 0 0, .slice none 0 0]) ?_ 1 _ rfl; (with_reducible repeat (first | refine blk_drewN ?_ _ | refine blk_drew ?_ | refine blk_alloc ?_ _)); refine blk_put (cs := #[.int .i64 0, .slice none 0 0, .slice none 0 0]) ?_ 0 _ rfl; (with_reducible repeat (first | refine blk_drewN ?_ _ | refine blk_drew ?_ | refine blk_alloc ?_ _)); exact BK182.out) Try.underlying34 rfl (by kernel_rfl)) rfl ?_
  exact ⟨_, _, by first | rfl | (simp [errW_none, errW_some] <;> rfl) | (simp [*, errW_none, errW_some] <;> rfl), by first | exact Kd.R_nil _ _ _ _ _ | exact Kd.N_nil _ _ _ _ _ | exact Kd.V_nil _ _ _ _ _ | exact Kd.Q_nil _ _ _ _ _ | exact Kd.S_nil _ _ _ _ _, by first | exact Kd.S_nil _ _ _ _ _ | exact Kd.N_nil _ _ _ _ _ | exact Kd.V_nil _ _ _ _ _ | exact Kd.Q_nil _ _ _ _ _ | exact Kd.R_nil _ _ _ _ _, hz1 HB.out GE182.out⟩
 ·
  replace c3 := Bool.eq_false_iff.mpr c3
  subst c3
  have H1 : (some (0, ([] : List Int), ([] : List (S25)), 3)) = some (r1, r2, r3, r4) := by rw [if_neg (show ¬ (false = true) by decide)] at H; exact H
  clear H
  have H := H1
  clear H1
  simp only [Option.some.injEq, Prod.mk.injEq] at H
  obtain ⟨rfl, rfl, rfl, rfl⟩ := H
  go_enter Try.func14, Try.ntmps14
  go_wp2_with (first | ((with_reducible refine gate_dst (N := 2) rfl ?_); refine box_event ?hg (N := 2) ?hd (cs := #[.int .i64 0, .slice none 0 0, .slice none 0 0]) (t := 34) ?hr ?_; (case hd => rfl); (case hg => rfl); (case hr => exact gz); intro gb182 hg w6 hbox hb; have n0_ := am (below_step (hz HB.out) hb); have n1_ := am (hbox); have n2_ := am ((bs hg (hz HB.out) : w.heap.size ≤ gb182)); have n3_ := am ((bs hg (hz HB.out) : w.heap.size ≤ gb182)); clear HB; have HB := n0_; have BK182 := n1_; have GW182 := n2_; have GE182 := n3_; clear n0_ n1_ n2_ n3_; clear hb hbox hg) | ((with_reducible refine gate_callee (f := 34) rfl ?_); refine goesL_ (some 5) rfl rfl Try.func34 (by kernel_rfl) rfl #[.int .i64 a0] rfl lz ?_; (with_reducible refine (upload_number.calls a0 false _ A2.out).mono ?_); rintro e w' ⟨rfl, ⟨nd, rfl⟩⟩; refine ⟨_, rfl, ?_⟩; (try (rw [drewN_self w6]; generalize hq_ : World.drewN w6 _ = w6; have n0_ : Aside0 (w6.heap[gb182]? = some (.cells #[.int .i64 0, .slice none 0 0, .slice none 0 0] 34 (0, 0))) := ⟨by rw [← hq_]; exact (bz BK182.out)⟩; have n1_ : Aside0 (Below w.heap.size w w6) := ⟨by rw [← hq_]; exact (hz1 HB.out GE182.out)⟩; clear BK182 HB hq_; have BK182 := n0_; have HB := n1_; clear n0_ n1_)); obtain ⟨hcz7_0, hcz7_1, hcz7_2⟩ := cs3 BK182.out; obtain ⟨hfz7_0, hfz7_1, hfz7_2⟩ := fs3 BK182.out))
  refine bodyPost_ret (results_ct rfl _ _ gb182 34 #[.int .i64 0, .slice none 0 0, .slice none 0 0] (0, 0) _ rfl (by (with_reducible repeat (first | refine blk_drewN ?_ _ | refine blk_drew ?_ | refine blk_alloc ?_ _)); refine blk_put (cs := #[.int .i64 0, .slice none 0 0, .slice none 0 0]) ?_ 2 _ rfl; (with_reducible repeat (first | refine blk_drewN ?_ _ | refine blk_drew ?_ | refine blk_alloc ?_ _)); refine blk_put (cs := #[.int .i64 0, .slice none 0 0, .slice none 0 0]) ?_ 1 _ rfl; (with_reducible repeat (first | refine blk_drewN ?_ _ | refine blk_drew ?_ | refine blk_alloc ?_ _)); refine blk_put (cs := #[.int .i64 0, .slice none 0 0, .slice none 0 0]) ?_ 0 _ rfl; (with_reducible repeat (first | refine blk_drewN ?_ _ | refine blk_drew ?_ | refine blk_alloc ?_ _)); exact BK182.out) Try.underlying34 rfl (by kernel_rfl)) rfl ?_
  exact ⟨_, _, by first | rfl | (simp [errW_none, errW_some] <;> rfl) | (simp [*, errW_none, errW_some] <;> rfl), by first | exact Kd.R_nil _ _ _ _ _ | exact Kd.N_nil _ _ _ _ _ | exact Kd.V_nil _ _ _ _ _ | exact Kd.Q_nil _ _ _ _ _ | exact Kd.S_nil _ _ _ _ _, by first | exact Kd.S_nil _ _ _ _ _ | exact Kd.N_nil _ _ _ _ _ | exact Kd.V_nil _ _ _ _ _ | exact Kd.Q_nil _ _ _ _ _ | exact Kd.R_nil _ _ _ _ _, hz1 HB.out GE182.out⟩

/-! ### examboardref53_New: function 15 -/
def examboardref53_New.f (a0 : Int) : Option (Int × List Int × (List (S25)) × Int) := (examboardref53_within.f a0 1 9999999).bind fun t185 => (if t185 = true then (some (a0, ([] : List Int), ([] : List (S25)), 0)) else (some (0, ([] : List Int), ([] : List (S25)), 3)))
set_option maxHeartbeats 8000000 in
set_option maxRecDepth 100000 in
theorem examboardref53_New.calls (a0 : Int) (r1 : Int) (r2 : List Int) (r3 : List (S25)) (r4 : Int) (w : World) (h : examboardref53_New.f a0 = some (r1, r2, r3, r4)) :
  Calls Try.prog 15 #[.int .i64 a0] w fun e w' => ∃ v1_ v2_ : Value, e = .returned (.tuple #[.agg #[.int .i64 r1, v1_, v2_], .int .i64 r4]) ∧ Kd.R (Kd.int .u8) 5 w' w.heap.size (fun _ => True) v1_ r2 ∧ Kd.S k25 25 w' w.heap.size (fun k_ => some k_ ≠ (v1_ : Value).ownBlock) v2_ r3 ∧ Below w.heap.size w w' := by
 have hu34 := Try.underlying34
 have HB := am (Below.refl w.heap.size w)
 have H : ((examboardref53_within.f a0 1 9999999).bind fun t185 => (if t185 = true then (some (a0, ([] : List Int), ([] : List (S25)), 0)) else (some (0, ([] : List Int), ([] : List (S25)), 3)))) = some (r1, r2, r3, r4) := h
 clear h
 replace H := Option.bind_eq_some_iff.mp H
 obtain ⟨t185, A20, H⟩ := H
 replace H : (if t185 = true then (some (a0, ([] : List Int), ([] : List (S25)), 0)) else (some (0, ([] : List Int), ([] : List (S25)), 3))) = some (r1, r2, r3, r4) := H
 have A2 := am A20
 clear A20
 by_cases c3 : t185 = true
 ·
  subst c3
  have H1 : (some (a0, ([] : List Int), ([] : List (S25)), 0)) = some (r1, r2, r3, r4) := by rw [if_pos rfl] at H; exact H
  clear H
  have H := H1
  clear H1
  simp only [Option.some.injEq, Prod.mk.injEq] at H
  obtain ⟨rfl, rfl, rfl, rfl⟩ := H
  go_enter Try.func15, Try.ntmps15
  go_wp2_with (first | ((with_reducible refine gate_dst (N := 2) rfl ?_); refine box_event ?hg (N := 2) ?hd (cs := #[.int .i64 0, .slice none 0 0, .slice none 0 0]) (t := 34) ?hr ?_; (case hd => rfl); (case hg => rfl); (case hr => exact gz); intro gb184 hg w4 hbox hb; have n0_ := am (below_step (hz HB.out) hb); have n1_ := am (hbox); have n2_ := am ((bs hg (hz HB.out) : w.heap.size ≤ gb184)); have n3_ := am ((bs hg (hz HB.out) : w.heap.size ≤ gb184)); clear HB; have HB := n0_; have BK184 := n1_; have GW184 := n2_; have GE184 := n3_; clear n0_ n1_ n2_ n3_; clear hb hbox hg) | ((with_reducible refine gate_callee (f := 35) rfl ?_); refine goesL_ (some 5) rfl rfl Try.func35 (by kernel_rfl) rfl #[.int .i64 a0, .int .i64 1, .int .i64 9999999] rfl lz ?_; (with_reducible refine (examboardref53_within.calls a0 1 9999999 true _ A2.out).mono ?_); rintro e w' ⟨rfl, ⟨nd, rfl⟩⟩; refine ⟨_, rfl, ?_⟩; (try (rw [drewN_self w4]; generalize hq_ : World.drewN w4 _ = w4; have n0_ : Aside0 (w4.heap[gb184]? = some (.cells #[.int .i64 0, .slice none 0 0, .slice none 0 0] 34 (0, 0))) := ⟨by rw [← hq_]; exact (bz BK184.out)⟩; have n1_ : Aside0 (Below w.heap.size w w4) := ⟨by rw [← hq_]; exact (hz1 HB.out GE184.out)⟩; clear BK184 HB hq_; have BK184 := n0_; have HB := n1_; clear n0_ n1_)); obtain ⟨hcz5_0, hcz5_1, hcz5_2⟩ := cs3 BK184.out; obtain ⟨hfz5_0, hfz5_1, hfz5_2⟩ := fs3 BK184.out))
  refine bodyPost_ret (results_ct rfl _ _ gb184 34 #[.int .i64 a0, .slice none 0 0, .slice none 0 0] (0, 0) _ rfl (by (with_reducible repeat (first | refine blk_drewN ?_ _ | refine blk_drew ?_ | refine blk_alloc ?_ _)); refine blk_put (cs := #[.int .i64 a0, .slice none 0 0, .slice none 0 0]) ?_ 2 _ rfl; (with_reducible repeat (first | refine blk_drewN ?_ _ | refine blk_drew ?_ | refine blk_alloc ?_ _)); refine blk_put (cs := #[.int .i64 a0, .slice none 0 0, .slice none 0 0]) ?_ 1 _ rfl; (with_reducible repeat (first | refine blk_drewN ?_ _ | refine blk_drew ?_ | refine blk_alloc ?_ _)); refine blk_put (cs := #[.int .i64 0, .slice none 0 0, .slice none 0 0]) ?_ 0 _ rfl; (with_reducible repeat (first | refine blk_drewN ?_ _ | refine blk_drew ?_ | refine blk_alloc ?_ _)); exact BK184.out) Try.underlying34 rfl (by kernel_rfl)) rfl ?_
  exact ⟨_, _, by first | rfl | (simp [errW_none, errW_some] <;> rfl) | (simp [*, errW_none, errW_some] <;> rfl), by first | exact Kd.R_nil _ _ _ _ _ | exact Kd.N_nil _ _ _ _ _ | exact Kd.V_nil _ _ _ _ _ | exact Kd.Q_nil _ _ _ _ _ | exact Kd.S_nil _ _ _ _ _, by first | exact Kd.S_nil _ _ _ _ _ | exact Kd.N_nil _ _ _ _ _ | exact Kd.V_nil _ _ _ _ _ | exact Kd.Q_nil _ _ _ _ _ | exact Kd.R_nil _ _ _ _ _, hz1 HB.out GE184.out⟩
 ·
  replace c3 := Bool.eq_false_iff.mpr c3
  subst c3
  have H1 : (some (0, ([] : List Int), ([] : List (S25)), 3)) = some (r1, r2, r3, r4) := by rw [if_neg (show ¬ (false = true) by decide)] at H; exact H
  clear H
  have H := H1
  clear H1
  simp only [Option.some.injEq, Prod.mk.injEq] at H
  obtain ⟨rfl, rfl, rfl, rfl⟩ := H
  go_enter Try.func15, Try.ntmps15
  go_wp2_with (first | ((with_reducible refine gate_dst (N := 2) rfl ?_); refine box_event ?hg (N := 2) ?hd (cs := #[.int .i64 0, .slice none 0 0, .slice none 0 0]) (t := 34) ?hr ?_; (case hd => rfl); (case hg => rfl); (case hr => exact gz); intro gb184 hg w6 hbox hb; have n0_ := am (below_step (hz HB.out) hb); have n1_ := am (hbox); have n2_ := am ((bs hg (hz HB.out) : w.heap.size ≤ gb184)); have n3_ := am ((bs hg (hz HB.out) : w.heap.size ≤ gb184)); clear HB; have HB := n0_; have BK184 := n1_; have GW184 := n2_; have GE184 := n3_; clear n0_ n1_ n2_ n3_; clear hb hbox hg) | ((with_reducible refine gate_callee (f := 35) rfl ?_); refine goesL_ (some 5) rfl rfl Try.func35 (by kernel_rfl) rfl #[.int .i64 a0, .int .i64 1, .int .i64 9999999] rfl lz ?_; (with_reducible refine (examboardref53_within.calls a0 1 9999999 false _ A2.out).mono ?_); rintro e w' ⟨rfl, ⟨nd, rfl⟩⟩; refine ⟨_, rfl, ?_⟩; (try (rw [drewN_self w6]; generalize hq_ : World.drewN w6 _ = w6; have n0_ : Aside0 (w6.heap[gb184]? = some (.cells #[.int .i64 0, .slice none 0 0, .slice none 0 0] 34 (0, 0))) := ⟨by rw [← hq_]; exact (bz BK184.out)⟩; have n1_ : Aside0 (Below w.heap.size w w6) := ⟨by rw [← hq_]; exact (hz1 HB.out GE184.out)⟩; clear BK184 HB hq_; have BK184 := n0_; have HB := n1_; clear n0_ n1_)); obtain ⟨hcz7_0, hcz7_1, hcz7_2⟩ := cs3 BK184.out; obtain ⟨hfz7_0, hfz7_1, hfz7_2⟩ := fs3 BK184.out))
  refine bodyPost_ret (results_ct rfl _ _ gb184 34 #[.int .i64 0, .slice none 0 0, .slice none 0 0] (0, 0) _ rfl (by (with_reducible repeat (first | refine blk_drewN ?_ _ | refine blk_drew ?_ | refine blk_alloc ?_ _)); refine blk_put (cs := #[.int .i64 0, .slice none 0 0, .slice none 0 0]) ?_ 2 _ rfl; (with_reducible repeat (first | refine blk_drewN ?_ _ | refine blk_drew ?_ | refine blk_alloc ?_ _)); refine blk_put (cs := #[.int .i64 0, .slice none 0 0, .slice none 0 0]) ?_ 1 _ rfl; (with_reducible repeat (first | refine blk_drewN ?_ _ | refine blk_drew ?_ | refine blk_alloc ?_ _)); refine blk_put (cs := #[.int .i64 0, .slice none 0 0, .slice none 0 0]) ?_ 0 _ rfl; (with_reducible repeat (first | refine blk_drewN ?_ _ | refine blk_drew ?_ | refine blk_alloc ?_ _)); exact BK184.out) Try.underlying34 rfl (by kernel_rfl)) rfl ?_
  exact ⟨_, _, by first | rfl | (simp [errW_none, errW_some] <;> rfl) | (simp [*, errW_none, errW_some] <;> rfl), by first | exact Kd.R_nil _ _ _ _ _ | exact Kd.N_nil _ _ _ _ _ | exact Kd.V_nil _ _ _ _ _ | exact Kd.Q_nil _ _ _ _ _ | exact Kd.S_nil _ _ _ _ _, by first | exact Kd.S_nil _ _ _ _ _ | exact Kd.N_nil _ _ _ _ _ | exact Kd.V_nil _ _ _ _ _ | exact Kd.Q_nil _ _ _ _ _ | exact Kd.R_nil _ _ _ _ _, hz1 HB.out GE184.out⟩

/-! ### examboardlaw53_samePackets: function 16 -/
def examboardlaw53_samePackets.l0 : Nat → List (S25) → List (S25) → Int → Int → Option (Bool)
 | 0, _, _, _, _ => none
 | k + 1, x0, x1, x12, x13 => if x13 < x12 then (if 0 ≤ x13 then (if x13 < (x0.length : Int) then (if x13 < (x1.length : Int) then ((examboardlaw53_samePacket.f k ((rd_T25 x0 x13).f0) ((rd_T25 x0 x13).f1) ((rd_T25 x0 x13).f2) ((rd_T25 x0 x13).f3) ((rd_T25 x1 x13).f0) ((rd_T25 x1 x13).f1) ((rd_T25 x1 x13).f2) ((rd_T25 x1 x13).f3)).bind fun t188 => (if t188 = true then (examboardlaw53_samePackets.l0 k x0 x1 x12 (wrap64 (x13 + 1))) else (some false))) else (none)) else (none)) else (none)) else (some true)
def examboardlaw53_samePackets.f (k : Nat) (l0 : List (S25)) (l1 : List (S25)) : Option (Bool) := if (l0.length : Int) = (l1.length : Int) then (examboardlaw53_samePackets.l0 k l0 l1 (l0.length : Int) 0) else (some false)
theorem examboardlaw53_samePackets.mono_l : ∀ k, (∀ y0 y1 y2 y3, LeO (examboardlaw53_samePackets.l0 k y0 y1 y2 y3) (examboardlaw53_samePackets.l0 (k + 1) y0 y1 y2 y3))
 | 0 => fun _ _ _ _ r h => by simp [examboardlaw53_samePackets.l0] at h
 | k + 1 => by
  have ih0 := examboardlaw53_samePackets.mono_l k
  ·
   intro y0 y1 y2 y3
   unfold examboardlaw53_samePackets.l0
   repeat' first
   | (with_reducible exact ih0 _ _ _ _)
   | (with_reducible exact examboardlaw53_samePacket.mono _ _ _ _ _ _ _ _ _)
   | (with_reducible exact LeO.refl _)
   | (with_reducible exact LeO.none _)
   | (with_reducible refine LeO.ite ?_ ?_)
   | (with_reducible refine LeO.bind ?_ (fun _ => ?_))
   | exact ih0 _ _ _ _
   | exact examboardlaw53_samePacket.mono _ _ _ _ _ _ _ _ _
   | exact LeO.none _
   | refine LeO.ite ?_ ?_
   | refine LeO.bind ?_ (fun _ => ?_)
theorem examboardlaw53_samePackets.mono : ∀ a0 a1 k, LeO (examboardlaw53_samePackets.f k a0 a1) (examboardlaw53_samePackets.f (k + 1) a0 a1) := by
 intro a0 a1 k
 have ih0 := examboardlaw53_samePackets.mono_l k
 unfold examboardlaw53_samePackets.f
 repeat' first
   | (with_reducible exact ih0 _ _ _ _)
   | (with_reducible exact examboardlaw53_samePacket.mono _ _ _ _ _ _ _ _ _)
   | (with_reducible exact LeO.refl _)
   | (with_reducible exact LeO.none _)
   | (with_reducible refine LeO.ite ?_ ?_)
   | (with_reducible refine LeO.bind ?_ (fun _ => ?_))
   | exact ih0 _ _ _ _
   | exact examboardlaw53_samePacket.mono _ _ _ _ _ _ _ _ _
   | exact LeO.none _
   | refine LeO.ite ?_ ?_
   | refine LeO.bind ?_ (fun _ => ?_)
def examboardlaw53_samePackets.T6 : Bool × List (List Nat × List Nat) := (true, [([], []), ([], []), ([0, 1], [0, 1]), ([2], [2]), ([], []), ([], []), ([4, 5], [4, 5]), ([6], [6]), ([3, 7], [3, 7]), ([8], [8])])
def examboardlaw53_samePackets.B6 : List Nat := [0, 0, 3, 7, 0, 0, 48, 112, 255, 511]
theorem examboardlaw53_samePackets.tab6 : rtab .any (opsOf Try.f16 6) = examboardlaw53_samePackets.T6 := by kernel_rfl
theorem examboardlaw53_samePackets.bits6 : waitsOk examboardlaw53_samePackets.T6.2 examboardlaw53_samePackets.B6 = true := by kernel_rfl
set_option maxHeartbeats 8000000 in
set_option maxRecDepth 100000 in
theorem examboardlaw53_samePackets.calls (k : Nat) (A0 : Option Addr) (c0 : Nat) (l0 : List (S25)) (A1 : Option Addr) (c1 : Nat) (l1 : List (S25)) (r : Bool) (w : World) (hr0 : Kd.C k25 w A0 l0.length l0) (hc0 : l0.length ≤ c0) (hr1 : Kd.C k25 w A1 l1.length l1) (hc1 : l1.length ≤ c1) (h : examboardlaw53_samePackets.f k l0 l1 = some r) :
  Calls Try.prog 16 #[.slice A0 l0.length c0, .slice A1 l1.length c1] w fun e w' => e = .returned (.bool r) ∧ Below w.heap.size w w' := by
 have hu25 := Try.underlying25
 have HR0 := am hr0
 have HC0 := am hc0
 clear hr0 hc0
 have HR1 := am hr1
 have HC1 := am hc1
 clear hr1 hc1
 have HB := am (Below.refl w.heap.size w)
 have H : (if (l0.length : Int) = (l1.length : Int) then (examboardlaw53_samePackets.l0 k l0 l1 (l0.length : Int) 0) else (some false)) = some r := h
 clear h
 by_cases c3 : (l0.length : Int) = (l1.length : Int)
 ·
  rw [if_pos c3] at H
  have c3b0 : ((l0.length : Int) == (l1.length : Int)) = true := beq_iff_eq.mpr c3
  have c3b1 : ((l0.length : Int) != (l1.length : Int)) = false := bne_eq_false_iff_eq.mpr c3
  have c3b2 : (l0.length == l1.length) = true := by first | simpa using c3 | (simp at c3 ⊢; omega)
  clear c3
  have H' := am H
  clear H
  go_enter Try.func16, Try.ntmps16
  go_wp2
  go_loopg [13] k (fun kq v13 w' => ∃ (x13_1 : Int), v13 = .int .i64 x13_1 ∧ Aside0 (examboardlaw53_samePackets.l0 kq l0 l1 (l0.length : Int) x13_1 = some r) ∧ Aside0 (kq ≤ k) ∧ Aside0 (Below w.heap.size w w'))
  case atStart => exact ⟨(0), (by first | rfl | (simp; done) | (simp [*]; done)), H', ⟨Nat.le_refl _⟩, ⟨hz HB.out⟩⟩
  case round =>
   clear H'
   try clear c1
   try clear p2
   try clear c3
   try clear c3b0
   try clear c3b1
   try clear c3b2
   obtain ⟨x13_1, rfl, HA, HK1, HB⟩ := hrel
   cases gk with
   | zero => exact absurd HA.out (by simp [examboardlaw53_samePackets.l0])
   | succ k1 =>
    have H := HA.out
    clear HA
    simp only [examboardlaw53_samePackets.l0] at H
    by_cases c4 : x13_1 < (l0.length : Int)
    ·
     rw [if_pos c4] at H
     have c4b0 : decide (x13_1 < (l0.length : Int)) = true := decide_eq_true c4
     clear c4
     by_cases c5 : 0 ≤ x13_1
     ·
      rw [if_pos c5] at H
      have c5b0 : decide (0 ≤ x13_1) = true := decide_eq_true c5
      clear c5
      by_cases c6 : x13_1 < (l0.length : Int)
      ·
       rw [if_pos c6] at H
       have c6b0 : decide (x13_1 < (l0.length : Int)) = true := decide_eq_true c6
       clear c6
       by_cases c7 : x13_1 < (l1.length : Int)
       ·
        rw [if_pos c7] at H
        have c7b0 : decide (x13_1 < (l1.length : Int)) = true := decide_eq_true c7
        clear c7
        replace H := Option.bind_eq_some_iff.mp H
        obtain ⟨t188, A80, H⟩ := H
        replace H : (if t188 = true then (examboardlaw53_samePackets.l0 k1 l0 l1 (l0.length : Int) (wrap64 (x13_1 + 1))) else (some false)) = some r := H
        have A8 := am A80
        clear A80
        by_cases c9 : t188 = true
        ·
         subst c9
         have H1 : (examboardlaw53_samePackets.l0 k1 l0 l1 (l0.length : Int) (wrap64 (x13_1 + 1))) = some r := by rw [if_pos rfl] at H; exact H
         clear H
         have H := H1
         clear H1
         have H' := am H
         clear H
         try go_wp2
         have n0_ := am (below_drew1 HB.out)
         clear HB
         have HB := n0_
         clear n0_
         have p186 : 0 ≤ (x13_1 : Int) := of_decide_eq_true az
         have q186 : x13_1 < (l0.length : Int) := of_decide_eq_true az
         obtain ⟨ad186, A186_2, c186_2, e186, hx186_0, hx186_1, hx186_2, hx186_3, hl186_2, hi186_2⟩ := at_T25 HR0.out x13_1 p186 q186
         have hw186_3 := hx186_3
         have hw186_2 := hx186_2
         have hw186_1 := hx186_1
         have hw186_0 := hx186_0
         cases e186
         replace hx186_0 := (HB.out.cell (World.block_lt_of_cell? w _ hx186_0)).trans hx186_0
         replace hx186_1 := (HB.out.cell (World.block_lt_of_cell? w _ hx186_1)).trans hx186_1
         replace hx186_2 := (HB.out.cell (World.block_lt_of_cell? w _ hx186_2)).trans hx186_2
         replace hx186_3 := (HB.out.cell (World.block_lt_of_cell? w _ hx186_3)).trans hx186_3
         have HR186_2 := am hi186_2
         have HC186_2 := am hl186_2
         clear hi186_2 hl186_2
         replace p186 := eq_true p186
         replace q186 := eq_true q186
         have p187 : 0 ≤ (x13_1 : Int) := of_decide_eq_true az
         have q187 : x13_1 < (l1.length : Int) := of_decide_eq_true az
         obtain ⟨ad187, A187_2, c187_2, e187, hx187_0, hx187_1, hx187_2, hx187_3, hl187_2, hi187_2⟩ := at_T25 HR1.out x13_1 p187 q187
         have hw187_3 := hx187_3
         have hw187_2 := hx187_2
         have hw187_1 := hx187_1
         have hw187_0 := hx187_0
         cases e187
         replace hx187_0 := (HB.out.cell (World.block_lt_of_cell? w _ hx187_0)).trans hx187_0
         replace hx187_1 := (HB.out.cell (World.block_lt_of_cell? w _ hx187_1)).trans hx187_1
         replace hx187_2 := (HB.out.cell (World.block_lt_of_cell? w _ hx187_2)).trans hx187_2
         replace hx187_3 := (HB.out.cell (World.block_lt_of_cell? w _ hx187_3)).trans hx187_3
         have HR187_2 := am hi187_2
         have HC187_2 := am hl187_2
         clear hi187_2 hl187_2
         replace p187 := eq_true p187
         replace q187 := eq_true q187
         refine start_ (n := 10) (S := fun w' => w'.cell? (ad186.add ((x13_1).toNat * 4)) = some (.int .i64 ((rd_T25 l0 x13_1).f0)) ∧ w'.cell? ⟨(ad186.add ((x13_1).toNat * 4)).block, (ad186.add ((x13_1).toNat * 4)).off + 1, none⟩ = some (.int .i64 ((rd_T25 l0 x13_1).f1)) ∧ w'.cell? ⟨(ad186.add ((x13_1).toNat * 4)).block, (ad186.add ((x13_1).toNat * 4)).off + 2, none⟩ = some (.slice A186_2 ((rd_T25 l0 x13_1).f2).length c186_2) ∧ w'.cell? ⟨(ad186.add ((x13_1).toNat * 4)).block, (ad186.add ((x13_1).toNat * 4)).off + 3, none⟩ = some (.int .u64 ((rd_T25 l0 x13_1).f3)) ∧ w'.cell? (ad187.add ((x13_1).toNat * 4)) = some (.int .i64 ((rd_T25 l1 x13_1).f0)) ∧ w'.cell? ⟨(ad187.add ((x13_1).toNat * 4)).block, (ad187.add ((x13_1).toNat * 4)).off + 1, none⟩ = some (.int .i64 ((rd_T25 l1 x13_1).f1)) ∧ w'.cell? ⟨(ad187.add ((x13_1).toNat * 4)).block, (ad187.add ((x13_1).toNat * 4)).off + 2, none⟩ = some (.slice A187_2 ((rd_T25 l1 x13_1).f2).length c187_2) ∧ w'.cell? ⟨(ad187.add ((x13_1).toNat * 4)).block, (ad187.add ((x13_1).toNat * 4)).off + 3, none⟩ = some (.int .u64 ((rd_T25 l1 x13_1).f3))) (ds := []) #[false, false, false, false, false, false, false, false, false, false] (by kernel_rfl) rfl rfl ⟨((HB.out.cell (World.block_lt_of_cell? w _ hw186_0)).trans hw186_0), ((HB.out.cell (World.block_lt_of_cell? w _ hw186_1)).trans hw186_1), ((HB.out.cell (World.block_lt_of_cell? w _ hw186_2)).trans hw186_2), ((HB.out.cell (World.block_lt_of_cell? w _ hw186_3)).trans hw186_3), ((HB.out.cell (World.block_lt_of_cell? w _ hw187_0)).trans hw187_0), ((HB.out.cell (World.block_lt_of_cell? w _ hw187_1)).trans hw187_1), ((HB.out.cell (World.block_lt_of_cell? w _ hw187_2)).trans hw187_2), ((HB.out.cell (World.block_lt_of_cell? w _ hw187_3)).trans hw187_3)⟩ (fun hHeld => ?_); refine with_tabW examboardlaw53_samePackets.tab6 examboardlaw53_samePackets.bits6 (fun HT_ HW_ => ?_)
         generalize wr.drew = w10 at HB HR186_2 HR187_2 hx186_0 hx186_1 hx186_2 hx186_3 hx187_0 hx187_1 hx187_2 hx187_3 hHeld ⊢
         refine pz 0 16 HT_.out ?_
         refine pz 1 17 HT_.out ?_
         refine pz 2 18 HT_.out ?_
         refine pz 4 20 HT_.out ?_
         refine pz 5 21 HT_.out ?_
         refine pz 6 22 HT_.out ?_
         refine tz8 3 19 HT_.out HW_.out hHeld ?_
         refine tz8 7 23 HT_.out HW_.out hHeld ?_
         refine oz 8 24 HT_.out (fun K hK => ?_)
         refine goes_ Try.func11 (by kernel_rfl) rfl #[.agg #[.int .i64 ((rd_T25 l0 x13_1).f0), .int .i64 ((rd_T25 l0 x13_1).f1), .slice A186_2 ((rd_T25 l0 x13_1).f2).length c186_2, .int .u64 ((rd_T25 l0 x13_1).f3)], .agg #[.int .i64 ((rd_T25 l1 x13_1).f0), .int .i64 ((rd_T25 l1 x13_1).f1), .slice A187_2 ((rd_T25 l1 x13_1).f2).length c187_2, .int .u64 ((rd_T25 l1 x13_1).f3)]] (by rfl) rfl rfl lz ?_
         with_reducible refine (examboardlaw53_samePacket.calls k1 ((rd_T25 l0 x13_1).f0) ((rd_T25 l0 x13_1).f1) _ _ ((rd_T25 l0 x13_1).f2) ((rd_T25 l0 x13_1).f3) ((rd_T25 l1 x13_1).f0) ((rd_T25 l1 x13_1).f1) _ _ ((rd_T25 l1 x13_1).f2) ((rd_T25 l1 x13_1).f3) true _ ?side1 ?side2 ?side3 ?side4 A8.out).mono ?_
         (case side1 => exact cz (Kd.C_below HR186_2.out HB.out))
         (case side2 => exact HC186_2.out)
         (case side3 => exact cz (Kd.C_below HR187_2.out HB.out))
         (case side4 => exact HC187_2.out)
         rintro e w11 ⟨rfl, hb⟩
         refine ⟨_, rfl, ?_⟩
         have n0_ := am (below_step (hz HB.out) hb)
         clear HB
         have HB := n0_
         clear n0_
         (try clear hb)
         (try clear hb2)
         (try clear hk)
         (try clear hi)
         refine hK.out _ _ ⟨((HB.out.cell (World.block_lt_of_cell? w _ hw186_0)).trans hw186_0), ((HB.out.cell (World.block_lt_of_cell? w _ hw186_1)).trans hw186_1), ((HB.out.cell (World.block_lt_of_cell? w _ hw186_2)).trans hw186_2), ((HB.out.cell (World.block_lt_of_cell? w _ hw186_3)).trans hw186_3), ((HB.out.cell (World.block_lt_of_cell? w _ hw187_0)).trans hw187_0), ((HB.out.cell (World.block_lt_of_cell? w _ hw187_1)).trans hw187_1), ((HB.out.cell (World.block_lt_of_cell? w _ hw187_2)).trans hw187_2), ((HB.out.cell (World.block_lt_of_cell? w _ hw187_3)).trans hw187_3)⟩ (fun hHeld => ?_)
         clear hK K
         refine norm_ (a' := ?_) ?_ ?_
         rotate_left
         ·
          show Act.put _ (some 24) _ = _
          simp only [Act.put, List.setIfInBounds_toArray, List.set_cons_zero, List.set_cons_succ, i64_w, i32_w]
          rfl
         refine pz 9 25 HT_.out ?_
         refine done_ (done_of HT_.out (by kernel_rfl)) ?_
         try go_wp2
         go_roundg k1
         case measure => have := HK1.out; omega
         case rel => exact ⟨(wrap64 (x13_1 + 1)), (by first | rfl | (simp; done) | (simp [*]; done)), H', ⟨by have := HK1.out; omega⟩, ⟨hz HB.out⟩⟩
        ·
         replace c9 := Bool.eq_false_iff.mpr c9
         subst c9
         have H1 : (some false) = some r := by rw [if_neg (show ¬ (false = true) by decide)] at H; exact H
         clear H
         have H := H1
         clear H1
         obtain rfl := Option.some.inj H
         try go_wp2
         have n0_ := am (below_drew1 HB.out)
         clear HB
         have HB := n0_
         clear n0_
         have p186 : 0 ≤ (x13_1 : Int) := of_decide_eq_true az
         have q186 : x13_1 < (l0.length : Int) := of_decide_eq_true az
         obtain ⟨ad186, A186_2, c186_2, e186, hx186_0, hx186_1, hx186_2, hx186_3, hl186_2, hi186_2⟩ := at_T25 HR0.out x13_1 p186 q186
         have hw186_3 := hx186_3
         have hw186_2 := hx186_2
         have hw186_1 := hx186_1
         have hw186_0 := hx186_0
         cases e186
         replace hx186_0 := (HB.out.cell (World.block_lt_of_cell? w _ hx186_0)).trans hx186_0
         replace hx186_1 := (HB.out.cell (World.block_lt_of_cell? w _ hx186_1)).trans hx186_1
         replace hx186_2 := (HB.out.cell (World.block_lt_of_cell? w _ hx186_2)).trans hx186_2
         replace hx186_3 := (HB.out.cell (World.block_lt_of_cell? w _ hx186_3)).trans hx186_3
         have HR186_2 := am hi186_2
         have HC186_2 := am hl186_2
         clear hi186_2 hl186_2
         replace p186 := eq_true p186
         replace q186 := eq_true q186
         have p187 : 0 ≤ (x13_1 : Int) := of_decide_eq_true az
         have q187 : x13_1 < (l1.length : Int) := of_decide_eq_true az
         obtain ⟨ad187, A187_2, c187_2, e187, hx187_0, hx187_1, hx187_2, hx187_3, hl187_2, hi187_2⟩ := at_T25 HR1.out x13_1 p187 q187
         have hw187_3 := hx187_3
         have hw187_2 := hx187_2
         have hw187_1 := hx187_1
         have hw187_0 := hx187_0
         cases e187
         replace hx187_0 := (HB.out.cell (World.block_lt_of_cell? w _ hx187_0)).trans hx187_0
         replace hx187_1 := (HB.out.cell (World.block_lt_of_cell? w _ hx187_1)).trans hx187_1
         replace hx187_2 := (HB.out.cell (World.block_lt_of_cell? w _ hx187_2)).trans hx187_2
         replace hx187_3 := (HB.out.cell (World.block_lt_of_cell? w _ hx187_3)).trans hx187_3
         have HR187_2 := am hi187_2
         have HC187_2 := am hl187_2
         clear hi187_2 hl187_2
         replace p187 := eq_true p187
         replace q187 := eq_true q187
         refine start_ (n := 10) (S := fun w' => w'.cell? (ad186.add ((x13_1).toNat * 4)) = some (.int .i64 ((rd_T25 l0 x13_1).f0)) ∧ w'.cell? ⟨(ad186.add ((x13_1).toNat * 4)).block, (ad186.add ((x13_1).toNat * 4)).off + 1, none⟩ = some (.int .i64 ((rd_T25 l0 x13_1).f1)) ∧ w'.cell? ⟨(ad186.add ((x13_1).toNat * 4)).block, (ad186.add ((x13_1).toNat * 4)).off + 2, none⟩ = some (.slice A186_2 ((rd_T25 l0 x13_1).f2).length c186_2) ∧ w'.cell? ⟨(ad186.add ((x13_1).toNat * 4)).block, (ad186.add ((x13_1).toNat * 4)).off + 3, none⟩ = some (.int .u64 ((rd_T25 l0 x13_1).f3)) ∧ w'.cell? (ad187.add ((x13_1).toNat * 4)) = some (.int .i64 ((rd_T25 l1 x13_1).f0)) ∧ w'.cell? ⟨(ad187.add ((x13_1).toNat * 4)).block, (ad187.add ((x13_1).toNat * 4)).off + 1, none⟩ = some (.int .i64 ((rd_T25 l1 x13_1).f1)) ∧ w'.cell? ⟨(ad187.add ((x13_1).toNat * 4)).block, (ad187.add ((x13_1).toNat * 4)).off + 2, none⟩ = some (.slice A187_2 ((rd_T25 l1 x13_1).f2).length c187_2) ∧ w'.cell? ⟨(ad187.add ((x13_1).toNat * 4)).block, (ad187.add ((x13_1).toNat * 4)).off + 3, none⟩ = some (.int .u64 ((rd_T25 l1 x13_1).f3))) (ds := []) #[false, false, false, false, false, false, false, false, false, false] (by kernel_rfl) rfl rfl ⟨((HB.out.cell (World.block_lt_of_cell? w _ hw186_0)).trans hw186_0), ((HB.out.cell (World.block_lt_of_cell? w _ hw186_1)).trans hw186_1), ((HB.out.cell (World.block_lt_of_cell? w _ hw186_2)).trans hw186_2), ((HB.out.cell (World.block_lt_of_cell? w _ hw186_3)).trans hw186_3), ((HB.out.cell (World.block_lt_of_cell? w _ hw187_0)).trans hw187_0), ((HB.out.cell (World.block_lt_of_cell? w _ hw187_1)).trans hw187_1), ((HB.out.cell (World.block_lt_of_cell? w _ hw187_2)).trans hw187_2), ((HB.out.cell (World.block_lt_of_cell? w _ hw187_3)).trans hw187_3)⟩ (fun hHeld => ?_); refine with_tabW examboardlaw53_samePackets.tab6 examboardlaw53_samePackets.bits6 (fun HT_ HW_ => ?_)
         generalize wr.drew = w12 at HB HR186_2 HR187_2 hx186_0 hx186_1 hx186_2 hx186_3 hx187_0 hx187_1 hx187_2 hx187_3 hHeld ⊢
         refine pz 0 16 HT_.out ?_
         refine pz 1 17 HT_.out ?_
         refine pz 2 18 HT_.out ?_
         refine pz 4 20 HT_.out ?_
         refine pz 5 21 HT_.out ?_
         refine pz 6 22 HT_.out ?_
         refine tz8 3 19 HT_.out HW_.out hHeld ?_
         refine tz8 7 23 HT_.out HW_.out hHeld ?_
         refine oz 8 24 HT_.out (fun K hK => ?_)
         refine goes_ Try.func11 (by kernel_rfl) rfl #[.agg #[.int .i64 ((rd_T25 l0 x13_1).f0), .int .i64 ((rd_T25 l0 x13_1).f1), .slice A186_2 ((rd_T25 l0 x13_1).f2).length c186_2, .int .u64 ((rd_T25 l0 x13_1).f3)], .agg #[.int .i64 ((rd_T25 l1 x13_1).f0), .int .i64 ((rd_T25 l1 x13_1).f1), .slice A187_2 ((rd_T25 l1 x13_1).f2).length c187_2, .int .u64 ((rd_T25 l1 x13_1).f3)]] (by rfl) rfl rfl lz ?_
         with_reducible refine (examboardlaw53_samePacket.calls k1 ((rd_T25 l0 x13_1).f0) ((rd_T25 l0 x13_1).f1) _ _ ((rd_T25 l0 x13_1).f2) ((rd_T25 l0 x13_1).f3) ((rd_T25 l1 x13_1).f0) ((rd_T25 l1 x13_1).f1) _ _ ((rd_T25 l1 x13_1).f2) ((rd_T25 l1 x13_1).f3) false _ ?side1 ?side2 ?side3 ?side4 A8.out).mono ?_
         (case side1 => exact cz (Kd.C_below HR186_2.out HB.out))
         (case side2 => exact HC186_2.out)
         (case side3 => exact cz (Kd.C_below HR187_2.out HB.out))
         (case side4 => exact HC187_2.out)
         rintro e w13 ⟨rfl, hb⟩
         refine ⟨_, rfl, ?_⟩
         have n0_ := am (below_step (hz HB.out) hb)
         clear HB
         have HB := n0_
         clear n0_
         (try clear hb)
         (try clear hb2)
         (try clear hk)
         (try clear hi)
         refine hK.out _ _ ⟨((HB.out.cell (World.block_lt_of_cell? w _ hw186_0)).trans hw186_0), ((HB.out.cell (World.block_lt_of_cell? w _ hw186_1)).trans hw186_1), ((HB.out.cell (World.block_lt_of_cell? w _ hw186_2)).trans hw186_2), ((HB.out.cell (World.block_lt_of_cell? w _ hw186_3)).trans hw186_3), ((HB.out.cell (World.block_lt_of_cell? w _ hw187_0)).trans hw187_0), ((HB.out.cell (World.block_lt_of_cell? w _ hw187_1)).trans hw187_1), ((HB.out.cell (World.block_lt_of_cell? w _ hw187_2)).trans hw187_2), ((HB.out.cell (World.block_lt_of_cell? w _ hw187_3)).trans hw187_3)⟩ (fun hHeld => ?_)
         clear hK K
         refine norm_ (a' := ?_) ?_ ?_
         rotate_left
         ·
          show Act.put _ (some 24) _ = _
          simp only [Act.put, List.setIfInBounds_toArray, List.set_cons_zero, List.set_cons_succ, i64_w, i32_w]
          rfl
         refine pz 9 25 HT_.out ?_
         refine done_ (done_of HT_.out (by kernel_rfl)) ?_
         try go_wp2
         go_ret
         exact ⟨ez, hz HB.out⟩
       ·
        rw [if_neg c7] at H
        exact absurd H (by simp)
      ·
       rw [if_neg c6] at H
       exact absurd H (by simp)
     ·
      rw [if_neg c5] at H
      exact absurd H (by simp)
    ·
     rw [if_neg c4] at H
     have c4b0 : decide (x13_1 < (l0.length : Int)) = false := decide_eq_false c4
     clear c4
     obtain rfl := Option.some.inj H
     go_wp2
     go_ret
     exact ⟨ez, hz HB.out⟩
 ·
  rw [if_neg c3] at H
  have c3b0 : ((l0.length : Int) == (l1.length : Int)) = false := beq_eq_false_iff_ne.mpr c3
  have c3b1 : ((l0.length : Int) != (l1.length : Int)) = true := bne_iff_ne.mpr c3
  have c3b2 : (l0.length == l1.length) = false := by first | simpa using c3 | (simp at c3 ⊢; omega)
  obtain rfl := Option.some.inj H
  go_enter Try.func16, Try.ntmps16
  go_wp2
  go_ret
  exact ⟨ez, hz HB.out⟩

/-! ### examboardlaw53_same: function 17 -/
def examboardlaw53_same.f (k : Nat) (a0_0 : Int) (l0_1 : List Int) (l0_2 : List (S25)) (a1_0 : Int) (l1_1 : List Int) (l1_2 : List (S25)) : Option (Bool) := if a0_0 = a1_0 then ((examboardlaw53_equal.f k l0_1 l1_1).bind fun t191 => (if t191 = true then ((examboardlaw53_samePackets.f k l0_2 l1_2).bind fun t192 => (some t192)) else (some false))) else (some false)
theorem examboardlaw53_same.mono : ∀ a0 a1 a2 a3 a4 a5 k, LeO (examboardlaw53_same.f k a0 a1 a2 a3 a4 a5) (examboardlaw53_same.f (k + 1) a0 a1 a2 a3 a4 a5) := by
 intro a0 a1 a2 a3 a4 a5 k
 unfold examboardlaw53_same.f
 repeat' first
   | (with_reducible exact examboardlaw53_equal.mono _ _ _)
   | (with_reducible exact examboardlaw53_samePackets.mono _ _ _)
   | (with_reducible exact LeO.refl _)
   | (with_reducible exact LeO.none _)
   | (with_reducible refine LeO.ite ?_ ?_)
   | (with_reducible refine LeO.bind ?_ (fun _ => ?_))
   | exact examboardlaw53_equal.mono _ _ _
   | exact examboardlaw53_samePackets.mono _ _ _
   | exact LeO.none _
   | refine LeO.ite ?_ ?_
   | refine LeO.bind ?_ (fun _ => ?_)
set_option maxHeartbeats 8000000 in
set_option maxRecDepth 100000 in
theorem examboardlaw53_same.calls (k : Nat) (a0_0 : Int) (A0_1 : Option Addr) (c0_1 : Nat) (l0_1 : List Int) (A0_2 : Option Addr) (c0_2 : Nat) (l0_2 : List (S25)) (a1_0 : Int) (A1_1 : Option Addr) (c1_1 : Nat) (l1_1 : List Int) (A1_2 : Option Addr) (c1_2 : Nat) (l1_2 : List (S25)) (r : Bool) (w : World) (hr0_1 : Kd.C (Kd.int .u8) w A0_1 l0_1.length l0_1) (hc0_1 : l0_1.length ≤ c0_1) (hr0_2 : Kd.C k25 w A0_2 l0_2.length l0_2) (hc0_2 : l0_2.length ≤ c0_2) (hr1_1 : Kd.C (Kd.int .u8) w A1_1 l1_1.length l1_1) (hc1_1 : l1_1.length ≤ c1_1) (hr1_2 : Kd.C k25 w A1_2 l1_2.length l1_2) (hc1_2 : l1_2.length ≤ c1_2) (h : examboardlaw53_same.f k a0_0 l0_1 l0_2 a1_0 l1_1 l1_2 = some r) :
  Calls Try.prog 17 #[.agg #[.int .i64 a0_0, .slice A0_1 l0_1.length c0_1, .slice A0_2 l0_2.length c0_2], .agg #[.int .i64 a1_0, .slice A1_1 l1_1.length c1_1, .slice A1_2 l1_2.length c1_2]] w fun e w' => e = .returned (.bool r) ∧ Below w.heap.size w w' := by
 have hu34 := Try.underlying34
 have HR0_1 := am hr0_1
 have HC0_1 := am hc0_1
 clear hr0_1 hc0_1
 have HR0_2 := am hr0_2
 have HC0_2 := am hc0_2
 clear hr0_2 hc0_2
 have HR1_1 := am hr1_1
 have HC1_1 := am hc1_1
 clear hr1_1 hc1_1
 have HR1_2 := am hr1_2
 have HC1_2 := am hc1_2
 clear hr1_2 hc1_2
 have HB := am (Below.refl w.heap.size w)
 have H : (if a0_0 = a1_0 then ((examboardlaw53_equal.f k l0_1 l1_1).bind fun t191 => (if t191 = true then ((examboardlaw53_samePackets.f k l0_2 l1_2).bind fun t192 => (some t192)) else (some false))) else (some false)) = some r := h
 clear h
 by_cases c3 : a0_0 = a1_0
 ·
  rw [if_pos c3] at H
  have c3b0 : (a0_0 == a1_0) = true := beq_iff_eq.mpr c3
  have c3b1 : (a0_0 != a1_0) = false := bne_eq_false_iff_eq.mpr c3
  clear c3
  replace H := Option.bind_eq_some_iff.mp H
  obtain ⟨t191, A40, H⟩ := H
  replace H : (if t191 = true then ((examboardlaw53_samePackets.f k l0_2 l1_2).bind fun t192 => (some t192)) else (some false)) = some r := H
  have A4 := am A40
  clear A40
  by_cases c5 : t191 = true
  ·
   subst c5
   have H1 : ((examboardlaw53_samePackets.f k l0_2 l1_2).bind fun t192 => (some t192)) = some r := by rw [if_pos rfl] at H; exact H
   clear H
   have H := H1
   clear H1
   replace H := Option.bind_eq_some_iff.mp H
   obtain ⟨t192, A60, H⟩ := H
   replace H : (some t192) = some r := H
   have A6 := am A60
   clear A60
   obtain rfl := Option.some.inj H
   go_enter Try.func17, Try.ntmps17
   go_wp2_with (first | ((with_reducible refine gate_dst (N := 2) rfl ?_); refine box_event ?hg (N := 2) ?hd (cs := #[.int .i64 a0_0, .slice A0_1 l0_1.length c0_1, .slice A0_2 l0_2.length c0_2]) (t := 34) ?hr ?_; (case hd => rfl); (case hg => rfl); (case hr => exact gz); intro gb189 hg w7 hbox hb; have n0_ := am (below_step (hz HB.out) hb); have n1_ := am (hbox); have n2_ := am ((bs hg (hz HB.out) : w.heap.size ≤ gb189)); have n3_ := am ((bs hg (hz HB.out) : w.heap.size ≤ gb189)); clear HB; have HB := n0_; have BK189 := n1_; have GW189 := n2_; have GE189 := n3_; clear n0_ n1_ n2_ n3_; clear hb hbox hg) | ((with_reducible refine gate_dst (N := 3) rfl ?_); refine box_event ?hg (N := 3) ?hd (cs := #[.int .i64 a1_0, .slice A1_1 l1_1.length c1_1, .slice A1_2 l1_2.length c1_2]) (t := 34) ?hr ?_; (case hd => rfl); (case hg => rfl); (case hr => exact gz); intro gb190 hg w8 hbox hb; have n0_ := am (blk_below (bz BK189.out) hb); have n1_ := am (below_step (hz1 HB.out GE189.out) hb); have n2_ := am (hbox); have n3_ := am ((bs hg (hz1 HB.out GE189.out) : w.heap.size ≤ gb190)); have n4_ := am ((bs hg (hz1 HB.out GE189.out) : w.heap.size ≤ gb190)); have n5_ := am ((nl hg (bz BK189.out) : gb189 ≠ gb190)); have n6_ := am ((ng hg (bz BK189.out) : gb190 ≠ gb189)); clear BK189; clear HB; have BK189 := n0_; have HB := n1_; have BK190 := n2_; have GW190 := n3_; have GE190 := n4_; have NB189_190 := n5_; have NB190_189 := n6_; clear n0_ n1_ n2_ n3_ n4_ n5_ n6_; clear hb hbox hg; have hnb9 := NB189_190.out; have hnc9 := NB190_189.out; obtain ⟨hcz10_0, hcz10_1, hcz10_2⟩ := cs3 BK189.out; obtain ⟨hfz10_0, hfz10_1, hfz10_2⟩ := fs3 BK189.out; obtain ⟨hcz11_0, hcz11_1, hcz11_2⟩ := cs3 BK190.out; obtain ⟨hfz11_0, hfz11_1, hfz11_2⟩ := fs3 BK190.out) | (go_at_call 22; (with_reducible refine (examboardlaw53_equal.calls k _ _ l0_1 _ _ l1_1 true _ ?side1 ?side2 ?side3 ?side4 A4.out).mono ?_); (case side1 => exact cz (Kd.C_below HR0_1.out HB.out)); (case side2 => exact HC0_1.out); (case side3 => exact cz (Kd.C_below HR1_1.out HB.out)); (case side4 => exact HC1_1.out); rintro e w' ⟨rfl, ⟨nd, rfl⟩⟩) | (go_at_call 16; (with_reducible refine (examboardlaw53_samePackets.calls k _ _ l0_2 _ _ l1_2 t192 _ ?side1 ?side2 ?side3 ?side4 A6.out).mono ?_); (case side1 => repeat (first | exact (Kd.C_below HR0_2.out (hz2 HB.out GE189.out GE190.out)) | (with_reducible refine Kd.C_alloc ?_ _) | (with_reducible refine Kd.C_drewN ?_ _) | (with_reducible refine Kd.C_drew ?_))); (case side2 => exact HC0_2.out); (case side3 => repeat (first | exact (Kd.C_below HR1_2.out (hz2 HB.out GE189.out GE190.out)) | (with_reducible refine Kd.C_alloc ?_ _) | (with_reducible refine Kd.C_drewN ?_ _) | (with_reducible refine Kd.C_drew ?_))); (case side4 => exact HC1_2.out); rintro e w12 ⟨rfl, hb⟩; have n0_ := am (blk_below (bz BK189.out) hb); have n1_ := am (blk_below (bz BK190.out) hb); have n2_ := am (below_step (hz2 HB.out GE189.out GE190.out) hb); clear BK189; clear BK190; clear HB; have BK189 := n0_; have BK190 := n1_; have HB := n2_; clear n0_ n1_ n2_; (try clear hb); (try clear hb2); (try clear hk); (try clear hi)))
   go_ret
   exact ⟨ez, hz2 HB.out GE189.out GE190.out⟩
  ·
   replace c5 := Bool.eq_false_iff.mpr c5
   subst c5
   have H1 : (some false) = some r := by rw [if_neg (show ¬ (false = true) by decide)] at H; exact H
   clear H
   have H := H1
   clear H1
   obtain rfl := Option.some.inj H
   go_enter Try.func17, Try.ntmps17
   go_wp2_with (first | ((with_reducible refine gate_dst (N := 2) rfl ?_); refine box_event ?hg (N := 2) ?hd (cs := #[.int .i64 a0_0, .slice A0_1 l0_1.length c0_1, .slice A0_2 l0_2.length c0_2]) (t := 34) ?hr ?_; (case hd => rfl); (case hg => rfl); (case hr => exact gz); intro gb189 hg w13 hbox hb; have n0_ := am (below_step (hz HB.out) hb); have n1_ := am (hbox); have n2_ := am ((bs hg (hz HB.out) : w.heap.size ≤ gb189)); have n3_ := am ((bs hg (hz HB.out) : w.heap.size ≤ gb189)); clear HB; have HB := n0_; have BK189 := n1_; have GW189 := n2_; have GE189 := n3_; clear n0_ n1_ n2_ n3_; clear hb hbox hg) | ((with_reducible refine gate_dst (N := 3) rfl ?_); refine box_event ?hg (N := 3) ?hd (cs := #[.int .i64 a1_0, .slice A1_1 l1_1.length c1_1, .slice A1_2 l1_2.length c1_2]) (t := 34) ?hr ?_; (case hd => rfl); (case hg => rfl); (case hr => exact gz); intro gb190 hg w14 hbox hb; have n0_ := am (blk_below (bz BK189.out) hb); have n1_ := am (below_step (hz1 HB.out GE189.out) hb); have n2_ := am (hbox); have n3_ := am ((bs hg (hz1 HB.out GE189.out) : w.heap.size ≤ gb190)); have n4_ := am ((bs hg (hz1 HB.out GE189.out) : w.heap.size ≤ gb190)); have n5_ := am ((nl hg (bz BK189.out) : gb189 ≠ gb190)); have n6_ := am ((ng hg (bz BK189.out) : gb190 ≠ gb189)); clear BK189; clear HB; have BK189 := n0_; have HB := n1_; have BK190 := n2_; have GW190 := n3_; have GE190 := n4_; have NB189_190 := n5_; have NB190_189 := n6_; clear n0_ n1_ n2_ n3_ n4_ n5_ n6_; clear hb hbox hg; have hnb15 := NB189_190.out; have hnc15 := NB190_189.out; obtain ⟨hcz16_0, hcz16_1, hcz16_2⟩ := cs3 BK189.out; obtain ⟨hfz16_0, hfz16_1, hfz16_2⟩ := fs3 BK189.out; obtain ⟨hcz17_0, hcz17_1, hcz17_2⟩ := cs3 BK190.out; obtain ⟨hfz17_0, hfz17_1, hfz17_2⟩ := fs3 BK190.out) | (go_at_call 22; (with_reducible refine (examboardlaw53_equal.calls k _ _ l0_1 _ _ l1_1 false _ ?side1 ?side2 ?side3 ?side4 A4.out).mono ?_); (case side1 => exact cz (Kd.C_below HR0_1.out HB.out)); (case side2 => exact HC0_1.out); (case side3 => exact cz (Kd.C_below HR1_1.out HB.out)); (case side4 => exact HC1_1.out); rintro e w' ⟨rfl, ⟨nd, rfl⟩⟩))
   go_ret
   exact ⟨ez, hz2 HB.out GE189.out GE190.out⟩
 ·
  rw [if_neg c3] at H
  have c3b0 : (a0_0 == a1_0) = false := beq_eq_false_iff_ne.mpr c3
  have c3b1 : (a0_0 != a1_0) = true := bne_iff_ne.mpr c3
  obtain rfl := Option.some.inj H
  go_enter Try.func17, Try.ntmps17
  go_wp2_with (first | ((with_reducible refine gate_dst (N := 2) rfl ?_); refine box_event ?hg (N := 2) ?hd (cs := #[.int .i64 a0_0, .slice A0_1 l0_1.length c0_1, .slice A0_2 l0_2.length c0_2]) (t := 34) ?hr ?_; (case hd => rfl); (case hg => rfl); (case hr => exact gz); intro gb189 hg w18 hbox hb; have n0_ := am (below_step (hz HB.out) hb); have n1_ := am (hbox); have n2_ := am ((bs hg (hz HB.out) : w.heap.size ≤ gb189)); have n3_ := am ((bs hg (hz HB.out) : w.heap.size ≤ gb189)); clear HB; have HB := n0_; have BK189 := n1_; have GW189 := n2_; have GE189 := n3_; clear n0_ n1_ n2_ n3_; clear hb hbox hg) | ((with_reducible refine gate_dst (N := 3) rfl ?_); refine box_event ?hg (N := 3) ?hd (cs := #[.int .i64 a1_0, .slice A1_1 l1_1.length c1_1, .slice A1_2 l1_2.length c1_2]) (t := 34) ?hr ?_; (case hd => rfl); (case hg => rfl); (case hr => exact gz); intro gb190 hg w19 hbox hb; have n0_ := am (blk_below (bz BK189.out) hb); have n1_ := am (below_step (hz1 HB.out GE189.out) hb); have n2_ := am (hbox); have n3_ := am ((bs hg (hz1 HB.out GE189.out) : w.heap.size ≤ gb190)); have n4_ := am ((bs hg (hz1 HB.out GE189.out) : w.heap.size ≤ gb190)); have n5_ := am ((nl hg (bz BK189.out) : gb189 ≠ gb190)); have n6_ := am ((ng hg (bz BK189.out) : gb190 ≠ gb189)); clear BK189; clear HB; have BK189 := n0_; have HB := n1_; have BK190 := n2_; have GW190 := n3_; have GE190 := n4_; have NB189_190 := n5_; have NB190_189 := n6_; clear n0_ n1_ n2_ n3_ n4_ n5_ n6_; clear hb hbox hg; have hnb20 := NB189_190.out; have hnc20 := NB190_189.out; obtain ⟨hcz21_0, hcz21_1, hcz21_2⟩ := cs3 BK189.out; obtain ⟨hfz21_0, hfz21_1, hfz21_2⟩ := fs3 BK189.out; obtain ⟨hcz22_0, hcz22_1, hcz22_2⟩ := cs3 BK190.out; obtain ⟨hfz22_0, hfz22_1, hfz22_2⟩ := fs3 BK190.out))
  go_ret
  exact ⟨ez, hz2 HB.out GE189.out GE190.out⟩

end Go.Proofs.Ytglpnbcockancaa.Q
