/- Made by wip/myprint.py of this session (it drives the kit's printer): what the calls of the Go functions come to, as plain Lean functions, and the row of a law over them; without conditions. -/
import Derived.Test.YtglpnbcockancaaQx0
import Derived.Test.YtglpnbcockancaaQx1
namespace Go.Proofs.Ytglpnbcockancaa.Q
open Go.RowKit Go.Proofs.YtglpnbcockancaaW.PrintWords Go.Proofs.YtglpnbcockancaaW.PrintLast Go.Proofs.YtglpnbcockancaaW.PrintMore
attribute [local go_sem] max2_int min2_int max_two min_two max_three min_three max_four min_four   -- for this text's walks alone
set_option linter.unusedVariables false
set_option linter.unusedSimpArgs false

/-! ### upload_divide: function 32 -/
mutual
def upload_divide.j0 : Nat → Int → List Int → Int → Int → Bool → Option ((List (S25)) × Int)
 | 0, _, _, _, _, _ => none
 | k + 1, x0, x1, x2, x3, x41 => if x41 = true then (some (([] : List (S25)), 3)) else (upload_divide.l0 k x0 x1 x3 ([] : List (S25)) x2)
def upload_divide.l0 : Nat → Int → List Int → Int → List (S25) → Int → Option ((List (S25)) × Int)
 | 0, _, _, _, _, _ => none
 | k + 1, x0, x1, x3, x10, x11 => if x11 < (x1.length : Int) then (if 0 ≤ x11 then (if x11 ≤ (mn (wrap64 (x11 + x3)) (x1.length : Int)) then (if (mn (wrap64 (x11 + x3)) (x1.length : Int)) ≤ (x1.length : Int) then ((upload_Packet.f k x0 x11 ((x1.take ((mn (wrap64 (x11 + x3)) (x1.length : Int)) : Int).toNat).drop (x11 : Int).toNat)).bind fun bt149 => (if bt149.2.2.2.2 = 0 then (if x10.length < 2932031007402 then (upload_divide.l0 k x0 x1 x3 (x10 ++ [(⟨bt149.1, bt149.2.1, bt149.2.2.1, bt149.2.2.2.1⟩ : S25)]) (wrap64 (x11 + x3))) else (none)) else (none))) else (none)) else (none)) else (none)) else (some (x10, 0))
end
def upload_divide.f (k : Nat) (a0 : Int) (l1 : List Int) (a2 : Int) (a3 : Int) : Option ((List (S25)) × Int) := (upload_number.f a0).bind fun t147 => (if t147 = true then (if a3 < 1 then (upload_divide.j0 k a0 l1 a2 a3 true) else (if a3 > 2000 then (upload_divide.j0 k a0 l1 a2 a3 true) else (if (l1.length : Int) > 1048576 then (upload_divide.j0 k a0 l1 a2 a3 true) else (if a3 = 0 then (none) else (upload_divide.j0 k a0 l1 a2 a3 (decide ((wrap64 (Int.tdiv (wrap64 ((wrap64 ((wrap64 ((l1.length : Int) - a2)) + a3)) - 1)) a3)) > 1024))))))) else (upload_divide.j0 k a0 l1 a2 a3 true))
theorem upload_divide.mono_l : ∀ k, (∀ y0 y1 y2 y3 y4, LeO (upload_divide.j0 k y0 y1 y2 y3 y4) (upload_divide.j0 (k + 1) y0 y1 y2 y3 y4)) ∧ (∀ y0 y1 y2 y3 y4, LeO (upload_divide.l0 k y0 y1 y2 y3 y4) (upload_divide.l0 (k + 1) y0 y1 y2 y3 y4))
 | 0 => ⟨fun _ _ _ _ _ r h => by simp [upload_divide.j0] at h, fun _ _ _ _ _ r h => by simp [upload_divide.l0] at h⟩
 | k + 1 => by
  obtain ⟨ih0, ih1⟩ := upload_divide.mono_l k
  refine ⟨?_, ?_⟩
  ·
   intro y0 y1 y2 y3 y4
   unfold upload_divide.j0
   repeat' first
   | (with_reducible exact ih0 _ _ _ _ _)
   | (with_reducible exact ih1 _ _ _ _ _)
   | (with_reducible exact upload_Packet.mono _ _ _ _)
   | (with_reducible exact LeO.refl _)
   | (with_reducible exact LeO.none _)
   | (with_reducible refine LeO.ite ?_ ?_)
   | (with_reducible refine LeO.bind ?_ (fun _ => ?_))
   | exact ih0 _ _ _ _ _
   | exact ih1 _ _ _ _ _
   | exact upload_Packet.mono _ _ _ _
   | exact LeO.none _
   | refine LeO.ite ?_ ?_
   | refine LeO.bind ?_ (fun _ => ?_)
  ·
   intro y0 y1 y2 y3 y4
   unfold upload_divide.l0
   repeat' first
   | (with_reducible exact ih0 _ _ _ _ _)
   | (with_reducible exact ih1 _ _ _ _ _)
   | (with_reducible exact upload_Packet.mono _ _ _ _)
   | (with_reducible exact LeO.refl _)
   | (with_reducible exact LeO.none _)
   | (with_reducible refine LeO.ite ?_ ?_)
   | (with_reducible refine LeO.bind ?_ (fun _ => ?_))
   | exact ih0 _ _ _ _ _
   | exact ih1 _ _ _ _ _
   | exact upload_Packet.mono _ _ _ _
   | exact LeO.none _
   | refine LeO.ite ?_ ?_
   | refine LeO.bind ?_ (fun _ => ?_)
theorem upload_divide.mono : ∀ a0 a1 a2 a3 k, LeO (upload_divide.f k a0 a1 a2 a3) (upload_divide.f (k + 1) a0 a1 a2 a3) := by
 intro a0 a1 a2 a3 k
 obtain ⟨ih0, ih1⟩ := upload_divide.mono_l k
 unfold upload_divide.f
 repeat' first
   | (with_reducible exact ih0 _ _ _ _ _)
   | (with_reducible exact ih1 _ _ _ _ _)
   | (with_reducible exact upload_Packet.mono _ _ _ _)
   | (with_reducible exact LeO.refl _)
   | (with_reducible exact LeO.none _)
   | (with_reducible refine LeO.ite ?_ ?_)
   | (with_reducible refine LeO.bind ?_ (fun _ => ?_))
   | exact ih0 _ _ _ _ _
   | exact ih1 _ _ _ _ _
   | exact upload_Packet.mono _ _ _ _
   | exact LeO.none _
   | refine LeO.ite ?_ ?_
   | refine LeO.bind ?_ (fun _ => ?_)
set_option maxHeartbeats 8000000 in
set_option maxRecDepth 100000 in
theorem upload_divide.calls (k : Nat) (a0 : Int) (A1 : Option Addr) (c1 : Nat) (l1 : List Int) (a2 : Int) (a3 : Int) (r1 : List (S25)) (r2 : Int) (w : World) (hr1 : Kd.C (Kd.int .u8) w A1 l1.length l1) (hc1 : l1.length ≤ c1) (h : upload_divide.f k a0 l1 a2 a3 = some (r1, r2)) :
  Calls Try.prog 32 #[.int .i64 a0, .slice A1 l1.length c1, .int .i64 a2, .int .i64 a3] w fun e w' => ∃ v0_ : Value, e = .returned (.tuple #[v0_, .int .i64 r2]) ∧ Kd.S k25 25 w' w.heap.size (fun _ => True) v0_ r1 ∧ Below w.heap.size w w' := by
 have hu25 := Try.underlying25
 have HR1 := am hr1
 have HC1 := am hc1
 clear hr1 hc1
 have HB := am (Below.refl w.heap.size w)
 have H : ((upload_number.f a0).bind fun t147 => (if t147 = true then (if a3 < 1 then (upload_divide.j0 k a0 l1 a2 a3 true) else (if a3 > 2000 then (upload_divide.j0 k a0 l1 a2 a3 true) else (if (l1.length : Int) > 1048576 then (upload_divide.j0 k a0 l1 a2 a3 true) else (if a3 = 0 then (none) else (upload_divide.j0 k a0 l1 a2 a3 (decide ((wrap64 (Int.tdiv (wrap64 ((wrap64 ((wrap64 ((l1.length : Int) - a2)) + a3)) - 1)) a3)) > 1024))))))) else (upload_divide.j0 k a0 l1 a2 a3 true))) = some (r1, r2) := h
 clear h
 have HC5 := am H
 clear H
 go_enter Try.func32, Try.ntmps32
 go_upto_region 1 with (fail)
 go_cut [41] (fun v41 wc => ∃ (kq : Nat) (x41_4 : Bool), v41 = .bool x41_4 ∧ Aside0 (upload_divide.j0 kq a0 l1 a2 a3 x41_4 = some (r1, r2)) ∧ Aside0 (kq ≤ k) ∧ Aside0 (Below w.heap.size w wc))
 case first =>
  have H := HC5.out
  clear HC5
  replace H := Option.bind_eq_some_iff.mp H
  obtain ⟨t147, A60, H⟩ := H
  replace H : (if t147 = true then (if a3 < 1 then (upload_divide.j0 k a0 l1 a2 a3 true) else (if a3 > 2000 then (upload_divide.j0 k a0 l1 a2 a3 true) else (if (l1.length : Int) > 1048576 then (upload_divide.j0 k a0 l1 a2 a3 true) else (if a3 = 0 then (none) else (upload_divide.j0 k a0 l1 a2 a3 (decide ((wrap64 (Int.tdiv (wrap64 ((wrap64 ((wrap64 ((l1.length : Int) - a2)) + a3)) - 1)) a3)) > 1024))))))) else (upload_divide.j0 k a0 l1 a2 a3 true)) = some (r1, r2) := H
  have A6 := am A60
  clear A60
  by_cases c7 : t147 = true
  ·
   subst c7
   have H1 : (if a3 < 1 then (upload_divide.j0 k a0 l1 a2 a3 true) else (if a3 > 2000 then (upload_divide.j0 k a0 l1 a2 a3 true) else (if (l1.length : Int) > 1048576 then (upload_divide.j0 k a0 l1 a2 a3 true) else (if a3 = 0 then (none) else (upload_divide.j0 k a0 l1 a2 a3 (decide ((wrap64 (Int.tdiv (wrap64 ((wrap64 ((wrap64 ((l1.length : Int) - a2)) + a3)) - 1)) a3)) > 1024))))))) = some (r1, r2) := by rw [if_pos rfl] at H; exact H
   clear H
   have H := H1
   clear H1
   by_cases c8 : a3 < 1
   ·
    rw [if_pos c8] at H
    have c8b0 : decide (a3 < 1) = true := decide_eq_true c8
    clear c8
    (first | rw [c8b0] | (simp only [i64_w, i32_w]; rw [c8b0]) | skip)
    have H' := am H
    clear H
    go_wp2_with (first | ((with_reducible refine gate_callee (f := 34) rfl ?_); refine goesL_ (some 15) rfl rfl Try.func34 (by kernel_rfl) rfl #[.int .i64 a0] rfl lz ?_; (with_reducible refine (upload_number.calls a0 true _ A6.out).mono ?_); rintro e w' ⟨rfl, ⟨nd, rfl⟩⟩; refine ⟨_, rfl, ?_⟩))
    go_meet
    case rel => exact ⟨_, (true), (by first | rfl | (simp; done) | (simp [*]; done)), H', ⟨by first | omega | exact Nat.le_refl _⟩, ⟨hz HB.out⟩⟩
   ·
    rw [if_neg c8] at H
    have c8b0 : decide (a3 < 1) = false := decide_eq_false c8
    clear c8
    (first | rw [c8b0] | (simp only [i64_w, i32_w]; rw [c8b0]) | skip)
    by_cases c9 : a3 > 2000
    ·
     rw [if_pos c9] at H
     have c9b0 : decide (2000 < a3) = true := decide_eq_true c9
     clear c9
     have H' := am H
     clear H
     go_wp2_with (first | ((with_reducible refine gate_callee (f := 34) rfl ?_); refine goesL_ (some 15) rfl rfl Try.func34 (by kernel_rfl) rfl #[.int .i64 a0] rfl lz ?_; (with_reducible refine (upload_number.calls a0 true _ A6.out).mono ?_); rintro e w' ⟨rfl, ⟨nd, rfl⟩⟩; refine ⟨_, rfl, ?_⟩))
     go_meet
     case rel => exact ⟨_, (true), (by first | rfl | (simp; done) | (simp [*]; done)), H', ⟨by first | omega | exact Nat.le_refl _⟩, ⟨hz HB.out⟩⟩
    ·
     rw [if_neg c9] at H
     have c9b0 : decide (2000 < a3) = false := decide_eq_false c9
     clear c9
     by_cases c10 : (l1.length : Int) > 1048576
     ·
      rw [if_pos c10] at H
      have c10b0 : decide (1048576 < (l1.length : Int)) = true := decide_eq_true c10
      have c10b1 : decide (1048576 < l1.length) = true := decide_eq_true (by omega)
      clear c10
      have H' := am H
      clear H
      go_wp2_with (first | ((with_reducible refine gate_callee (f := 34) rfl ?_); refine goesL_ (some 15) rfl rfl Try.func34 (by kernel_rfl) rfl #[.int .i64 a0] rfl lz ?_; (with_reducible refine (upload_number.calls a0 true _ A6.out).mono ?_); rintro e w' ⟨rfl, ⟨nd, rfl⟩⟩; refine ⟨_, rfl, ?_⟩))
      go_meet
      case rel => exact ⟨_, (true), (by first | rfl | (simp; done) | (simp [*]; done)), H', ⟨by first | omega | exact Nat.le_refl _⟩, ⟨hz HB.out⟩⟩
     ·
      rw [if_neg c10] at H
      have c10b0 : decide (1048576 < (l1.length : Int)) = false := decide_eq_false c10
      have c10b1 : decide (1048576 < l1.length) = false := decide_eq_false (by omega)
      clear c10
      replace H := ie_ H
      obtain ⟨c11, H⟩ := H
      have c11b0 : (a3 == 0) = false := beq_eq_false_iff_ne.mpr c11
      have c11b1 : (a3 != 0) = true := bne_iff_ne.mpr c11
      have H' := am H
      clear H
      go_wp2_with (first | ((with_reducible refine gate_callee (f := 34) rfl ?_); refine goesL_ (some 15) rfl rfl Try.func34 (by kernel_rfl) rfl #[.int .i64 a0] rfl lz ?_; (with_reducible refine (upload_number.calls a0 true _ A6.out).mono ?_); rintro e w' ⟨rfl, ⟨nd, rfl⟩⟩; refine ⟨_, rfl, ?_⟩))
      go_meet
      case rel => exact ⟨_, (decide ((wrap64 (Int.tdiv (wrap64 ((wrap64 ((wrap64 ((l1.length : Int) - a2)) + a3)) - 1)) a3)) > 1024)), (by first | rfl | (simp; done) | (simp [*]; done)), H', ⟨by first | omega | exact Nat.le_refl _⟩, ⟨hz HB.out⟩⟩
  ·
   replace c7 := Bool.eq_false_iff.mpr c7
   subst c7
   have H1 : (upload_divide.j0 k a0 l1 a2 a3 true) = some (r1, r2) := by rw [if_neg (show ¬ (false = true) by decide)] at H; exact H
   clear H
   have H := H1
   clear H1
   have H' := am H
   clear H
   go_wp2_with (first | ((with_reducible refine gate_callee (f := 34) rfl ?_); refine goesL_ (some 15) rfl rfl Try.func34 (by kernel_rfl) rfl #[.int .i64 a0] rfl lz ?_; (with_reducible refine (upload_number.calls a0 false _ A6.out).mono ?_); rintro e w' ⟨rfl, ⟨nd, rfl⟩⟩; refine ⟨_, rfl, ?_⟩))
   go_meet
   case rel => exact ⟨_, (true), (by first | rfl | (simp; done) | (simp [*]; done)), H', ⟨by first | omega | exact Nat.le_refl _⟩, ⟨hz HB.out⟩⟩
 case rest =>
  clear HC5
  try clear c1
  try clear p2
  try clear c3
  try clear p6
  try clear c7
  try clear c8
  try clear c8b0
  try clear c9
  try clear c9b0
  try clear c10
  try clear c10b0
  try clear c10b1
  try clear c11
  try clear c11b0
  try clear c11b1
  obtain ⟨kq, x41_4, rfl, HA, HJ4, HB⟩ := hcut
  cases kq with
  | zero => exact absurd HA.out (by simp [upload_divide.j0])
  | succ kj4 =>
   have H := HA.out
   clear HA
   simp only [upload_divide.j0] at H
   by_cases c12 : x41_4 = true
   ·
    subst c12
    have H1 : (some (([] : List (S25)), 3)) = some (r1, r2) := by rw [if_pos rfl] at H; exact H
    clear H
    have H := H1
    clear H1
    simp only [Option.some.injEq, Prod.mk.injEq] at H
    obtain ⟨rfl, rfl⟩ := H
    go_wp2
    go_ret2
    exact ⟨_, by first | rfl | (simp [errW_none, errW_some] <;> rfl) | (simp [*, errW_none, errW_some] <;> rfl), by first | exact Kd.S_nil _ _ _ _ _ | exact Kd.N_nil _ _ _ _ _ | exact Kd.V_nil _ _ _ _ _ | exact Kd.Q_nil _ _ _ _ _ | exact Kd.R_nil _ _ _ _ _, hz HB.out⟩
   ·
    replace c12 := Bool.eq_false_iff.mpr c12
    subst c12
    have H1 : (upload_divide.l0 kj4 a0 l1 a3 ([] : List (S25)) a2) = some (r1, r2) := by rw [if_neg (show ¬ (false = true) by decide)] at H; exact H
    clear H
    have H := H1
    clear H1
    have H' := am H
    clear H
    go_wp2
    go_loopg [10, 11] kj4 (fun kq v10 v11 w' => ∃ (x10_2 : List (S25)) (x11_2 : Int), v11 = .int .i64 x11_2 ∧ Aside0 (upload_divide.l0 kq a0 l1 a3 x10_2 x11_2 = some (r1, r2)) ∧ Aside0 (kq ≤ kj4) ∧ Aside0 (Kd.S k25 25 w' w.heap.size (fun _ => True) v10 x10_2) ∧ Aside0 (Below w.heap.size w w'))
    case atStart => exact ⟨(([] : List (S25))), (a2), (by first | rfl | (simp; done) | (simp [*]; done)), H', ⟨Nat.le_refl _⟩, ⟨by first | exact Kd.S_nil _ _ _ _ _ | exact Kd.N_nil _ _ _ _ _ | exact Kd.V_nil _ _ _ _ _ | exact Kd.Q_nil _ _ _ _ _ | exact Kd.R_nil _ _ _ _ _⟩, ⟨hz HB.out⟩⟩
    case round =>
     clear H'
     try clear c1
     try clear p2
     try clear c3
     try clear p6
     try clear c7
     try clear c8
     try clear c8b0
     try clear c9
     try clear c9b0
     try clear c10
     try clear c10b0
     try clear c10b1
     try clear c11
     try clear c11b0
     try clear c11b1
     try clear c12
     try clear p2
     try clear p6
     obtain ⟨x10_2, x11_2, rfl, HA, HK2, HO_10, HB⟩ := hrel
     cases gk with
     | zero => exact absurd HA.out (by simp [upload_divide.l0])
     | succ k2 =>
      have H := HA.out
      clear HA
      simp only [upload_divide.l0] at H
      by_cases c13 : x11_2 < (l1.length : Int)
      ·
       rw [if_pos c13] at H
       have c13b0 : decide (x11_2 < (l1.length : Int)) = true := decide_eq_true c13
       clear c13
       obtain ⟨ji14, hji14⟩ : ∃ j_ : Int, (mn (wrap64 (x11_2 + a3)) (l1.length : Int)) = j_ := ⟨_, rfl⟩
       replace H : (if 0 ≤ x11_2 then (if x11_2 ≤ (ji14) then (if (ji14) ≤ (l1.length : Int) then ((upload_Packet.f k2 a0 x11_2 ((l1.take ((ji14) : Int).toNat).drop (x11_2 : Int).toNat)).bind fun bt149 => (if bt149.2.2.2.2 = 0 then (if x10_2.length < 2932031007402 then (upload_divide.l0 k2 a0 l1 a3 (x10_2 ++ [(⟨bt149.1, bt149.2.1, bt149.2.2.1, bt149.2.2.2.1⟩ : S25)]) (wrap64 (x11_2 + a3))) else (none)) else (none))) else (none)) else (none)) else (none)) = some (r1, r2) := by first | (rw [hji14] at H; exact H) | (simp only [hji14] at H ⊢; exact H)
       have hji14_ : (if (l1.length : Int) < (wrap64 (x11_2 + a3)) then (l1.length : Int) else (wrap64 (x11_2 + a3))) = ji14 := hji14
       replace H := it_ H
       obtain ⟨c15, H⟩ := H
       have c15b0 := eq_true c15
       have c15b1 : decide (0 ≤ x11_2) = true := decide_eq_true c15
       clear c15
       replace H := it_ H
       obtain ⟨c16, H⟩ := H
       have c16b0 := eq_true c16
       have c16b1 : decide (x11_2 ≤ (ji14)) = true := decide_eq_true c16
       clear c16
       replace H := it_ H
       obtain ⟨c17, H⟩ := H
       have c17b0 := eq_true c17
       have c17b1 : decide ((ji14) ≤ (l1.length : Int)) = true := decide_eq_true c17
       clear c17
       replace H := Option.bind_eq_some_iff.mp H
       obtain ⟨⟨t149, t150, t151, t154, t155⟩, A180, H⟩ := H
       replace H : (if t155 = 0 then (if x10_2.length < 2932031007402 then (upload_divide.l0 k2 a0 l1 a3 (x10_2 ++ [(⟨t149, t150, t151, t154⟩ : S25)]) (wrap64 (x11_2 + a3))) else (none)) else (none)) = some (r1, r2) := H
       have A18 := am A180
       clear A180
       replace H := it_ H
       obtain ⟨c19, H⟩ := H
       have c19b0 : (t155 == 0) = true := beq_iff_eq.mpr c19
       have c19b1 : (t155 != 0) = false := bne_eq_false_iff_eq.mpr c19
       clear c19
       replace H := it_ H
       obtain ⟨c20, H⟩ := H
       have LMc20 := am c20
       clear c20
       obtain ⟨y157, hy157⟩ : ∃ y_ : List (S25), y_ = (x10_2 ++ [(⟨t149, t150, t151, t154⟩ : S25)]) := ⟨_, rfl⟩
       replace H : (upload_divide.l0 k2 a0 l1 a3 y157 (wrap64 (x11_2 + a3))) = some (r1, r2) := by first | (rw [hy157]; with_reducible exact H) | (have H2_ := (Option.bind_some _ _).symm.trans H; rw [hy157]; with_reducible exact H2_) | (have H2_ := (Option.bind_some _ _).symm.trans H; with_reducible exact H2_) | with_reducible exact H | (rw [hy157]; exact H) | exact H
       have Ny157 := am hy157
       clear hy157
       have H' := am H
       clear H
       obtain ⟨i021, hi021, _, hsz21, _⟩ := info_parts info5
       obtain ⟨A21, hcut21, hA21, hC21⟩ := print_mid_of (P := Try.prog) (Value.int .u8) 0 22 5 .i64 .i64 Try.underlying22 hi021 hsz21 A1 c1 l1 x11_2 (ji14) (of_decide_eq_true az) (by first | omega | exact of_decide_eq_true az) (of_decide_eq_true az) HC1.out
       have HR148 := am (Kd.C_of_reads (h1 := fun _ => rfl) (hA21 _ (Kd.reads_of_C HR1.out)))
       have HC148 := am hC21
       clear hA21 hC21 hi021 hsz21
       go_wp2_with (first | ((with_reducible refine gate_callee (f := 9) rfl ?_); refine goesL_ (some 62) rfl rfl Try.func9 (by kernel_rfl) rfl #[.int .i64 a0, .int .i64 x11_2, .slice A21 ((l1.take ((ji14) : Int).toNat).drop (x11_2 : Int).toNat).length (c1 - x11_2.toNat)] rfl (by (try simp only [List.map_toArray, List.map_cons, List.map_nil]); first | done | (rw [show ((l1.take ((ji14) : Int).toNat).drop (x11_2 : Int).toNat).length = ((ji14).toNat - x11_2.toNat) from (by rw [List.length_drop, List.length_take]; have h_ : ((ji14) : Int) ≤ (l1.length : Int) := of_decide_eq_true az; omega)] <;> rfl) | (simp only [hji14]; rfl) | rfl | (simp only [List.length_drop, List.length_take]; rfl)) ?_; (with_reducible refine (upload_Packet.calls k2 a0 x11_2 _ _ ((l1.take ((ji14) : Int).toNat).drop (x11_2 : Int).toNat) t149 t150 t151 t154 t155 _ ?side1 ?side2 A18.out).mono ?_); (case side1 => exact cz (Kd.C_below HR148.out HB.out)); (case side2 => exact HC148.out); rintro e w22 ⟨v152, rfl, ho0, hb⟩; refine ⟨_, rfl, ?_⟩; replace HO_10 := am (Kd.S_elder' (sz HO_10.out) (Kd.R_base ho0) hb); have HO153 := am (Kd.R_lower ho0 (below_size (hz HB.out))); replace HB := am (below_step (hz HB.out) hb); (try clear hb); (try clear hb2); (try clear hk); (try clear hi); (try clear ho0)) | ((with_reducible refine gate_dst (N := 12) rfl ?_); (try (refine gate_guard (by rfl) ?_; dsimp only)); refine box_event ?hg (N := 12) ?hd (cs := #[.int .i64 0, .int .i64 0, .slice none 0 0, .int .u64 0]) (t := 25) ?hr ?_; (case hd => rfl); (case hg => rfl); (case hr => exact gz); intro gb156 hg w23 hbox hb; replace HO_10 := am (Kd.S_below (Kd.S_elderB (sz HO_10.out) gb156 (Nat.le_of_eq hg.symm)) hb); replace HO153 := am (Kd.R_below (rz HO153.out) hb); have BK156 := am (hbox); have GW156 := am ((bs hg (hz HB.out) : w.heap.size ≤ gb156)); have GE156 := am ((bs hg (hz HB.out) : w.heap.size ≤ gb156)); replace HB := am (below_step (hz HB.out) hb); clear hb hbox hg; obtain ⟨hcz24_0, hcz24_1, hcz24_2, hcz24_3⟩ := cs4 BK156.out; obtain ⟨hfz24_0, hfz24_1, hfz24_2, hfz24_3⟩ := fs4 BK156.out; obtain ⟨Ao25, co25, eo25⟩ := Kd.R_slice HO153.out; subst eo25) | ((with_reducible refine gate_store (t := 25) (p := 12) rfl ?_); refine store_event (t := 25) (p := 12) (v := ?vo_w26) (w1 := ((((w23.setCell ⟨gb156, 0, none⟩ (.int .i64 t149)).setCell ⟨gb156, 1, none⟩ (.int .i64 t150)).setCell ⟨gb156, 2, none⟩ (.slice Ao25 t151.length co25)).setCell ⟨gb156, 3, none⟩ (.int .u64 t154))) ?hg ?ho ?hn ?hr ?_; (case ho => rfl); (case hg => rfl); (case hn => rfl); (case hr => exact gz); intro w26 hw; replace HO_10 : Aside0 (Kd.S k25 25 w26 w.heap.size (fun k_ => some k_ ≠ (.slice Ao25 t151.length co25 : Value).ownBlock ∧ k_ ≠ gb156) u10 x10_2) := ⟨(by rw [hw]; exact (sz (Kd.S_mono (Kd.S_far (p := ⟨gb156, 3, none⟩) (Kd.S_far (p := ⟨gb156, 2, none⟩) (Kd.S_far (p := ⟨gb156, 1, none⟩) (Kd.S_far (p := ⟨gb156, 0, none⟩) (Kd.S_mono HO_10.out (fun k_ hk => (⟨hk, hk.2⟩ : _ ∧ k_ ≠ gb156))) (fun _ hk => hk.2) (.int .i64 t149)) (fun _ hk => hk.2) (.int .i64 t150)) (fun _ hk => hk.2) (.slice Ao25 t151.length co25)) (fun _ hk => hk.2) (.int .u64 t154)) (fun _ hk => ⟨hk.1.1.2, hk.1.2⟩))))⟩; replace HO153 : Aside0 (Kd.R (Kd.int .u8) 5 w26 w.heap.size (fun _ => True) (.slice Ao25 t151.length co25) t151) := ⟨(by rw [hw]; exact (rz (Kd.R_mono (rfg4 HO153.out BK156.out) (fun _ hk => trivial))))⟩; replace BK156 : Aside0 (w26.heap[gb156]? = some (.cells #[.int .i64 t149, .int .i64 t150, .slice Ao25 t151.length co25, .int .u64 t154] 25 (0, 0))) := ⟨(by rw [hw]; exact (by (with_reducible repeat (first | refine blk_drewN ?_ _ | refine blk_drew ?_ | refine blk_alloc ?_ _)); refine blk_put (cs := #[.int .i64 t149, .int .i64 t150, .slice Ao25 t151.length co25, .int .u64 0]) ?_ 3 _ rfl; (with_reducible repeat (first | refine blk_drewN ?_ _ | refine blk_drew ?_ | refine blk_alloc ?_ _)); refine blk_put (cs := #[.int .i64 t149, .int .i64 t150, .slice none 0 0, .int .u64 0]) ?_ 2 _ rfl; (with_reducible repeat (first | refine blk_drewN ?_ _ | refine blk_drew ?_ | refine blk_alloc ?_ _)); refine blk_put (cs := #[.int .i64 t149, .int .i64 0, .slice none 0 0, .int .u64 0]) ?_ 1 _ rfl; (with_reducible repeat (first | refine blk_drewN ?_ _ | refine blk_drew ?_ | refine blk_alloc ?_ _)); refine blk_put (cs := #[.int .i64 0, .int .i64 0, .slice none 0 0, .int .u64 0]) ?_ 0 _ rfl; (with_reducible repeat (first | refine blk_drewN ?_ _ | refine blk_drew ?_ | refine blk_alloc ?_ _)); exact BK156.out))⟩; replace HB : Aside0 (Below w.heap.size w w26) := ⟨(by rw [hw]; exact (hz1 HB.out GE156.out))⟩; clear hw; obtain ⟨hcz27_0, hcz27_1, hcz27_2, hcz27_3⟩ := cs4 BK156.out; obtain ⟨hfz27_0, hfz27_1, hfz27_2, hfz27_3⟩ := fs4 BK156.out) | ((with_reducible refine gate_builtin (b := .append) (xs := #[.tmp 68, .tmp 70]) rfl ?_); (try (refine gate_guard (by rfl) ?_; dsimp only)); at_builtin; refine Kd.S_append k25 (w0 := w) w.heap.size rfl (.tmp 68) (.tmp 70) 30 25 (.agg #[(.int .i64 0), (.int .i64 0), (.slice none 0 0), (.int .u64 0)]) 48 rfl Try.underlying30 info25 rfl (by decide) (by omega) u10 x10_2 (⟨t149, t150, t151, t154⟩ : S25) [.int .i64 t149, .int .i64 t150, .slice Ao25 t151.length co25, .int .u64 t154] (fun k_ => k_ ≠ gb156) (fun k_ => some k_ = (.slice Ao25 t151.length co25 : Value).ownBlock) rfl rfl ?aP (fun k_ hk_ => ((Kd.R_mono (ok' := fun k_ => ((fun k_ => k_ ≠ gb156)) k_ ∧ some k_ ≠ (u10 : Value).ownBlock) (Kd.R_types (Kd.R_apart' (HO153.out) (Kd.S_typed HO_10.out) (by decide)) BK156.out (by decide)) (fun k_ hk => ⟨hk.2, hk.1.2⟩))).1 k_ hk_.symm) ?aF ?aO ?aB ?aS ?aL ?_; (case aP => exact k25_mkM _ _ _ (⟨t149, t150, t151, t154⟩ : S25) (Kd.R_mono (Kd.R_tight rfl (Kd.R_mono (ok' := fun k_ => ((fun k_ => k_ ≠ gb156)) k_ ∧ some k_ ≠ (u10 : Value).ownBlock) (Kd.R_types (Kd.R_apart' (HO153.out) (Kd.S_typed HO_10.out) (by decide)) BK156.out (by decide)) (fun k_ hk => ⟨hk.2, hk.1.2⟩))) (fun _ h_ => h_))); (case aB => exact (hz1 HB.out GE156.out)); (case aF => exact (fun k_ hk => Kd.freshB (g := gb156) (o := .cells #[.int .i64 t149, .int .i64 t150, .slice Ao25 t151.length co25, .int .u64 t154] 25 (0, 0)) (bz BK156.out) k_ hk)); (case aO => exact (sz (Kd.S_mono HO_10.out (fun k_ hk => ⟨hk.2, fun e_ => hk.1 e_⟩)))); (case aS => exact (below_size (hz1 HB.out GE156.out))); (case aL => have := LMc20.out; omega); intro v158 w28 ho hb hg hat; rw [← Ny157.out] at ho; replace BK156 := am (blk_grown (bz BK156.out) hg (Kd.S_away HO_10.out (fun _ hk => hk.2))); replace HB := am (hb); have HO159 := am (ho); clear HO_10 HO153; clear ho hb hg hat))
       go_roundg k2
       case measure => have := HJ4.out; have := HK2.out; omega
       case rel => exact ⟨(y157), (wrap64 (x11_2 + a3)), (by first | rfl | (simp; done) | (simp [*]; done)), H', ⟨by have := HJ4.out; have := HK2.out; omega⟩, ⟨by (with_reducible repeat (first | apply Kd.S_alloc | apply Kd.S_drewN | apply Kd.S_drew)); exact Kd.S_mono HO159.out (fun _ hk => trivial)⟩, ⟨hz1 HB.out GE156.out⟩⟩
      ·
       rw [if_neg c13] at H
       have c13b0 : decide (x11_2 < (l1.length : Int)) = false := decide_eq_false c13
       clear c13
       simp only [Option.some.injEq, Prod.mk.injEq] at H
       obtain ⟨rfl, rfl⟩ := H
       go_wp2
       go_ret2
       exact ⟨_, by first | rfl | (simp [errW_none, errW_some] <;> rfl) | (simp [*, errW_none, errW_some] <;> rfl), by (with_reducible repeat (first | apply Kd.S_alloc | apply Kd.S_drewN | apply Kd.S_drew)); exact HO_10.out, hz HB.out⟩

/-! ### upload_Split: function 12 -/
def upload_Split.f (k : Nat) (a0 : Int) (l1 : List Int) (a2 : Int) : Option ((List (S25)) × Int) := (upload_divide.f k a0 l1 0 a2).bind fun bt160 => (some (bt160.1, bt160.2))
theorem upload_Split.mono : ∀ a0 a1 a2 k, LeO (upload_Split.f k a0 a1 a2) (upload_Split.f (k + 1) a0 a1 a2) := by
 intro a0 a1 a2 k
 unfold upload_Split.f
 repeat' first
   | (with_reducible exact upload_divide.mono _ _ _ _ _)
   | (with_reducible exact LeO.refl _)
   | (with_reducible exact LeO.none _)
   | (with_reducible refine LeO.ite ?_ ?_)
   | (with_reducible refine LeO.bind ?_ (fun _ => ?_))
   | exact upload_divide.mono _ _ _ _ _
   | exact LeO.none _
   | refine LeO.ite ?_ ?_
   | refine LeO.bind ?_ (fun _ => ?_)
set_option maxHeartbeats 8000000 in
set_option maxRecDepth 100000 in
theorem upload_Split.calls (k : Nat) (a0 : Int) (A1 : Option Addr) (c1 : Nat) (l1 : List Int) (a2 : Int) (r1 : List (S25)) (r2 : Int) (w : World) (hr1 : Kd.C (Kd.int .u8) w A1 l1.length l1) (hc1 : l1.length ≤ c1) (h : upload_Split.f k a0 l1 a2 = some (r1, r2)) :
  Calls Try.prog 12 #[.int .i64 a0, .slice A1 l1.length c1, .int .i64 a2] w fun e w' => ∃ v0_ : Value, e = .returned (.tuple #[v0_, .int .i64 r2]) ∧ Kd.S k25 25 w' w.heap.size (fun _ => True) v0_ r1 ∧ Below w.heap.size w w' := by
 have HR1 := am hr1
 have HC1 := am hc1
 clear hr1 hc1
 have HB := am (Below.refl w.heap.size w)
 have H : ((upload_divide.f k a0 l1 0 a2).bind fun bt160 => (some (bt160.1, bt160.2))) = some (r1, r2) := h
 clear h
 replace H := Option.bind_eq_some_iff.mp H
 obtain ⟨⟨t160, t161⟩, A40, H⟩ := H
 replace H : (some (t160, t161)) = some (r1, r2) := H
 have A4 := am A40
 clear A40
 simp only [Option.some.injEq, Prod.mk.injEq] at H
 obtain ⟨rfl, rfl⟩ := H
 go_enter Try.func12, Try.ntmps12
 go_wp2_with (first | ((with_reducible refine gate_callee (f := 32) rfl ?_); refine goesL_ (some 11) rfl rfl Try.func32 (by kernel_rfl) rfl #[.int .i64 a0, .slice A1 l1.length c1, .int .i64 0, .int .i64 a2] rfl lz ?_; (with_reducible refine (upload_divide.calls k a0 _ _ l1 0 a2 t160 t161 _ ?side1 ?side2 A4.out).mono ?_); (case side1 => repeat (first | exact HR1.out | (with_reducible refine Kd.C_alloc ?_ _) | (with_reducible refine Kd.C_drewN ?_ _) | (with_reducible refine Kd.C_drew ?_))); (case side2 => exact HC1.out); rintro e w5 ⟨v162, rfl, ho0, hb⟩; refine ⟨_, rfl, ?_⟩; have HO163 := am (Kd.S_lower ho0 (below_size (hz HB.out))); replace HB := am (below_step (hz HB.out) hb); (try clear hb); (try clear hb2); (try clear hk); (try clear hi); (try clear ho0)))
 go_ret2
 exact ⟨_, by first | rfl | (simp [errW_none, errW_some] <;> rfl) | (simp [*, errW_none, errW_some] <;> rfl), by (with_reducible repeat (first | apply Kd.S_alloc | apply Kd.S_drewN | apply Kd.S_drew)); exact HO163.out, hz HB.out⟩

/-! ### upload_New: function 14 -/
def upload_New.f (a0 : Int) : Option (Int × List Int × (List (S25)) × Int) := (upload_number.f a0).bind fun t183 => (if t183 = true then (some (a0, ([] : List Int), ([] : List (S25)), 0)) else (some (0, ([] : List Int), ([] : List (S25)), 3)))
set_option maxHeartbeats 8000000 in
set_option maxRecDepth 100000 in
theorem upload_New.calls (a0 : Int) (r1 : Int) (r2 : List Int) (r3 : List (S25)) (r4 : Int) (w : World) (h : upload_New.f a0 = some (r1, r2, r3, r4)) :
  Calls Try.prog 14 #[.int .i64 a0] w fun e w' => ∃ v1_ v2_ : Value, e = .returned (.tuple #[.agg #[.int .i64 r1, v1_, v2_], .int .i64 r4]) ∧ Kd.R (Kd.int .u8) 5 w' w.heap.size (fun _ => True) v1_ r2 ∧ Kd.S k25 25 w' w.heap.size (fun k_ => some k_ ≠ (v1_ : Value).ownBlock) v2_ r3 ∧ Below w.heap.size w w' := by
 have hu34 := Try.underlying34
 have HB := am (Below.refl w.heap.size w)
 have H : ((upload_number.f a0).bind fun t183 => (if t183 = true then (some (a0, ([] : List Int), ([] : List (S25)), 0)) else (some (0, ([] : List Int), ([] : List (S25)), 3)))) = some (r1, r2, r3, r4) := h
 clear h
 replace H := Option.bind_eq_some_iff.mp H
 obtain ⟨t183, A20, H⟩ := H
 replace H : (if t183 = true then (some (a0, ([] : List Int), ([] : List (S25)), 0)) else (some (0, ([] : List Int), ([] : List (S25)), 3))) = some (r1, r2, r3, r4) := H
 have A2 := am A20
 clear A20
 by_cases c3 : t183 = true
 ·
  subst c3
  have H1 : (some (a0, ([] : List Int), ([] : List (S25)), 0)) = some (r1, r2, r3, r4) := by rw [if_pos rfl] at H; exact H
  clear H
  have H := H1
  clear H1
  simp only [Option.some.injEq, Prod.mk.injEq] at H
  obtain ⟨rfl, rfl, rfl, rfl⟩ := H
  go_enter Try.func14, Try.ntmps14
  go_wp2_with (first | ((with_reducible refine gate_dst (N := 2) rfl ?_); refine box_event ?hg (N := 2) ?hd (cs := #[.int .i64 0, .slice none 0 0, .slice none 0 0]) (t := 34) ?hr ?_; (case hd => rfl); (case hg => rfl); (case hr => exact gz); intro gb182 hg w4 hbox hb; have BK182 := am (hbox); have GW182 := am ((bs hg (hz HB.out) : w.heap.size ≤ gb182)); have GE182 := am ((bs hg (hz HB.out) : w.heap.size ≤ gb182)); replace HB := am (below_step (hz HB.out) hb); clear hb hbox hg) | ((with_reducible refine gate_callee (f := 34) rfl ?_); refine goesL_ (some 5) rfl rfl Try.func34 (by kernel_rfl) rfl #[.int .i64 a0] rfl lz ?_; (with_reducible refine (upload_number.calls a0 true _ A2.out).mono ?_); rintro e w' ⟨rfl, ⟨nd, rfl⟩⟩; refine ⟨_, rfl, ?_⟩; (try (rw [drewN_self w4]; generalize hq_ : World.drewN w4 _ = w4; have n0_ : Aside0 (w4.heap[gb182]? = some (.cells #[.int .i64 0, .slice none 0 0, .slice none 0 0] 34 (0, 0))) := ⟨by rw [← hq_]; exact (bz BK182.out)⟩; have n1_ : Aside0 (Below w.heap.size w w4) := ⟨by rw [← hq_]; exact (hz1 HB.out GE182.out)⟩; clear BK182 HB hq_; have BK182 := n0_; have HB := n1_; clear n0_ n1_)); obtain ⟨hcz5_0, hcz5_1, hcz5_2⟩ := cs3 BK182.out; obtain ⟨hfz5_0, hfz5_1, hfz5_2⟩ := fs3 BK182.out))
  refine bodyPost_ret (results_ct rfl _ _ gb182 34 #[.int .i64 a0, .slice none 0 0, .slice none 0 0] (0, 0) _ rfl (by (with_reducible repeat (first | refine blk_drewN ?_ _ | refine blk_drew ?_ | refine blk_alloc ?_ _)); refine blk_put (cs := #[.int .i64 a0, .slice none 0 0, .slice none 0 0]) ?_ 2 _ rfl; (with_reducible repeat (first | refine blk_drewN ?_ _ | refine blk_drew ?_ | refine blk_alloc ?_ _)); refine blk_put (cs := #[.int .i64 a0, .slice none 0 0, .slice none 0 0]) ?_ 1 _ rfl; (with_reducible repeat (first | refine blk_drewN ?_ _ | refine blk_drew ?_ | refine blk_alloc ?_ _)); refine blk_put (cs := #[.int .i64 0, .slice none 0 0, .slice none 0 0]) ?_ 0 _ rfl; (with_reducible repeat (first | refine blk_drewN ?_ _ | refine blk_drew ?_ | refine blk_alloc ?_ _)); exact BK182.out) Try.underlying34 rfl (by kernel_rfl)) rfl ?_
  exact ⟨_, _, by first | rfl | (simp [errW_none, errW_some] <;> rfl) | (simp [*, errW_none, errW_some] <;> rfl), by first | exact Kd.R_nil _ _ _ _ _ | exact Kd.N_nil _ _ _ _ _ | exact Kd.V_nil _ _ _ _ _ | exact Kd.Q_nil _ _ _ _ _ | exact Kd.S_nil _ _ _ _ _, by first | exact Kd.S_nil _ _ _ _ _ | exact Kd.N_nil _ _ _ _ _ | exact Kd.V_nil _ _ _ _ _ | exact Kd.Q_nil _ _ _ _ _ | exact Kd.R_nil _ _ _ _ _, hz1 HB.out GE182.out⟩
 ·
  replace c3 := Bool.eq_false_iff.mpr c3
  subst c3
  have H1 : (some (0, ([] : List Int), ([] : List (S25)), 3)) = some (r1, r2, r3, r4) := by rw [if_neg (show ¬ (false = true) by decide)] at H; exact H
  clear H
  have H := H1
  clear H1
  simp only [Option.some.injEq, Prod.mk.injEq] at H
  obtain ⟨rfl, rfl, rfl, rfl⟩ := H
  go_enter Try.func14, Try.ntmps14
  go_wp2_with (first | ((with_reducible refine gate_dst (N := 2) rfl ?_); refine box_event ?hg (N := 2) ?hd (cs := #[.int .i64 0, .slice none 0 0, .slice none 0 0]) (t := 34) ?hr ?_; (case hd => rfl); (case hg => rfl); (case hr => exact gz); intro gb182 hg w6 hbox hb; have BK182 := am (hbox); have GW182 := am ((bs hg (hz HB.out) : w.heap.size ≤ gb182)); have GE182 := am ((bs hg (hz HB.out) : w.heap.size ≤ gb182)); replace HB := am (below_step (hz HB.out) hb); clear hb hbox hg) | ((with_reducible refine gate_callee (f := 34) rfl ?_); refine goesL_ (some 5) rfl rfl Try.func34 (by kernel_rfl) rfl #[.int .i64 a0] rfl lz ?_; (with_reducible refine (upload_number.calls a0 false _ A2.out).mono ?_); rintro e w' ⟨rfl, ⟨nd, rfl⟩⟩; refine ⟨_, rfl, ?_⟩; (try (rw [drewN_self w6]; generalize hq_ : World.drewN w6 _ = w6; have n0_ : Aside0 (w6.heap[gb182]? = some (.cells #[.int .i64 0, .slice none 0 0, .slice none 0 0] 34 (0, 0))) := ⟨by rw [← hq_]; exact (bz BK182.out)⟩; have n1_ : Aside0 (Below w.heap.size w w6) := ⟨by rw [← hq_]; exact (hz1 HB.out GE182.out)⟩; clear BK182 HB hq_; have BK182 := n0_; have HB := n1_; clear n0_ n1_)); obtain ⟨hcz7_0, hcz7_1, hcz7_2⟩ := cs3 BK182.out; obtain ⟨hfz7_0, hfz7_1, hfz7_2⟩ := fs3 BK182.out))
  refine bodyPost_ret (results_ct rfl _ _ gb182 34 #[.int .i64 0, .slice none 0 0, .slice none 0 0] (0, 0) _ rfl (by (with_reducible repeat (first | refine blk_drewN ?_ _ | refine blk_drew ?_ | refine blk_alloc ?_ _)); refine blk_put (cs := #[.int .i64 0, .slice none 0 0, .slice none 0 0]) ?_ 2 _ rfl; (with_reducible repeat (first | refine blk_drewN ?_ _ | refine blk_drew ?_ | refine blk_alloc ?_ _)); refine blk_put (cs := #[.int .i64 0, .slice none 0 0, .slice none 0 0]) ?_ 1 _ rfl; (with_reducible repeat (first | refine blk_drewN ?_ _ | refine blk_drew ?_ | refine blk_alloc ?_ _)); refine blk_put (cs := #[.int .i64 0, .slice none 0 0, .slice none 0 0]) ?_ 0 _ rfl; (with_reducible repeat (first | refine blk_drewN ?_ _ | refine blk_drew ?_ | refine blk_alloc ?_ _)); exact BK182.out) Try.underlying34 rfl (by kernel_rfl)) rfl ?_
  exact ⟨_, _, by first | rfl | (simp [errW_none, errW_some] <;> rfl) | (simp [*, errW_none, errW_some] <;> rfl), by first | exact Kd.R_nil _ _ _ _ _ | exact Kd.N_nil _ _ _ _ _ | exact Kd.V_nil _ _ _ _ _ | exact Kd.Q_nil _ _ _ _ _ | exact Kd.S_nil _ _ _ _ _, by first | exact Kd.S_nil _ _ _ _ _ | exact Kd.N_nil _ _ _ _ _ | exact Kd.V_nil _ _ _ _ _ | exact Kd.Q_nil _ _ _ _ _ | exact Kd.R_nil _ _ _ _ _, hz1 HB.out GE182.out⟩

/-! ### upload_check: function 37 -/
def upload_check.f (k : Nat) (a0_0 : Int) (a0_1 : Int) (l0_2 : List Int) (a0_3 : Int) : Option (Int) := (upload_fits.f a0_0 a0_1 l0_2 a0_3).bind fun t194 => (if t194 = true then ((upload_checksum.f k a0_0 a0_1 l0_2 a0_3).bind fun t195 => (if a0_3 = t195 then (some 0) else (some 12))) else (some 3))
theorem upload_check.mono : ∀ a0 a1 a2 a3 k, LeO (upload_check.f k a0 a1 a2 a3) (upload_check.f (k + 1) a0 a1 a2 a3) := by
 intro a0 a1 a2 a3 k
 unfold upload_check.f
 repeat' first
   | (with_reducible exact upload_checksum.mono _ _ _ _ _)
   | (with_reducible exact LeO.refl _)
   | (with_reducible exact LeO.none _)
   | (with_reducible refine LeO.ite ?_ ?_)
   | (with_reducible refine LeO.bind ?_ (fun _ => ?_))
   | exact upload_checksum.mono _ _ _ _ _
   | exact LeO.none _
   | refine LeO.ite ?_ ?_
   | refine LeO.bind ?_ (fun _ => ?_)
set_option maxHeartbeats 8000000 in
set_option maxRecDepth 100000 in
theorem upload_check.calls (k : Nat) (a0_0 : Int) (a0_1 : Int) (A0_2 : Option Addr) (c0_2 : Nat) (l0_2 : List Int) (a0_3 : Int) (r : Int) (w : World) (hr0_2 : Kd.C (Kd.int .u8) w A0_2 l0_2.length l0_2) (hc0_2 : l0_2.length ≤ c0_2) (h : upload_check.f k a0_0 a0_1 l0_2 a0_3 = some r) :
  Calls Try.prog 37 #[.agg #[.int .i64 a0_0, .int .i64 a0_1, .slice A0_2 l0_2.length c0_2, .int .u64 a0_3]] w fun e w' => e = .returned (.int .i64 r) ∧ Below w.heap.size w w' := by
 have hu25 := Try.underlying25
 have HR0_2 := am hr0_2
 have HC0_2 := am hc0_2
 clear hr0_2 hc0_2
 have HB := am (Below.refl w.heap.size w)
 have H : ((upload_fits.f a0_0 a0_1 l0_2 a0_3).bind fun t194 => (if t194 = true then ((upload_checksum.f k a0_0 a0_1 l0_2 a0_3).bind fun t195 => (if a0_3 = t195 then (some 0) else (some 12))) else (some 3))) = some r := h
 clear h
 replace H := Option.bind_eq_some_iff.mp H
 obtain ⟨t194, A20, H⟩ := H
 replace H : (if t194 = true then ((upload_checksum.f k a0_0 a0_1 l0_2 a0_3).bind fun t195 => (if a0_3 = t195 then (some 0) else (some 12))) else (some 3)) = some r := H
 have A2 := am A20
 clear A20
 by_cases c3 : t194 = true
 ·
  subst c3
  have H1 : ((upload_checksum.f k a0_0 a0_1 l0_2 a0_3).bind fun t195 => (if a0_3 = t195 then (some 0) else (some 12))) = some r := by rw [if_pos rfl] at H; exact H
  clear H
  have H := H1
  clear H1
  replace H := Option.bind_eq_some_iff.mp H
  obtain ⟨t195, A40, H⟩ := H
  replace H : (if a0_3 = t195 then (some 0) else (some 12)) = some r := H
  have A4 := am A40
  clear A40
  by_cases c5 : a0_3 = t195
  ·
   rw [if_pos c5] at H
   have c5b0 : (a0_3 == t195) = true := beq_iff_eq.mpr c5
   have c5b1 : (a0_3 != t195) = false := bne_eq_false_iff_eq.mpr c5
   clear c5
   obtain rfl := Option.some.inj H
   go_enter Try.func37, Try.ntmps37
   try go_wp2_with (first | ((with_reducible refine gate_dst (N := 1) rfl ?_); refine box_event ?hg (N := 1) ?hd (cs := #[.int .i64 a0_0, .int .i64 a0_1, .slice A0_2 l0_2.length c0_2, .int .u64 a0_3]) (t := 25) ?hr ?_; (case hd => rfl); (case hg => rfl); (case hr => exact gz); intro gb193 hg w6 hbox hb; have BK193 := am (hbox); have GW193 := am ((bs hg (hz HB.out) : w.heap.size ≤ gb193)); have GE193 := am ((bs hg (hz HB.out) : w.heap.size ≤ gb193)); replace HB := am (below_step (hz HB.out) hb); clear hb hbox hg; obtain ⟨hcz7_0, hcz7_1, hcz7_2, hcz7_3⟩ := cs4 BK193.out; obtain ⟨hfz7_0, hfz7_1, hfz7_2, hfz7_3⟩ := fs4 BK193.out) | ((with_reducible refine gate_callee (f := 27) rfl ?_); refine goesL_ (some 4) rfl rfl Try.func27 (by kernel_rfl) rfl #[.agg #[.int .i64 a0_0, .int .i64 a0_1, .slice A0_2 l0_2.length c0_2, .int .u64 a0_3]] rfl lz ?_; (with_reducible refine (upload_fits.calls a0_0 a0_1 _ _ l0_2 a0_3 true _ ?side1 ?side2 A2.out).mono ?_); (case side1 => exact cz (Kd.C_below HR0_2.out HB.out)); (case side2 => exact HC0_2.out); rintro e w8 ⟨rfl, hb⟩; refine ⟨_, rfl, ?_⟩; replace BK193 := am (blk_below (bz BK193.out) hb); replace HB := am (below_step (hz1 HB.out GE193.out) hb); (try clear hb); (try clear hb2); (try clear hk); (try clear hi)))
   replace BK193 := am (blk_drew BK193.out)
   replace HB := am (below_drew1 HB.out)
   refine start_ (n := 5) (S := fun w' => w'.cell? ⟨gb193, 0, none⟩ = some (.int .i64 a0_0) ∧ w'.cell? ⟨gb193, 1, none⟩ = some (.int .i64 a0_1) ∧ w'.cell? ⟨gb193, 2, none⟩ = some (.slice A0_2 l0_2.length c0_2) ∧ w'.cell? ⟨gb193, 3, none⟩ = some (.int .u64 a0_3)) (ds := []) #[false, false, false, false, false] (by kernel_rfl) rfl rfl ⟨(blk_cell BK193.out 0).trans rfl, (blk_cell BK193.out 1).trans rfl, (blk_cell BK193.out 2).trans rfl, (blk_cell BK193.out 3).trans rfl⟩ (fun hHeld => ?_)
   generalize w8.drew = w9 at BK193 HB hHeld ⊢
   refine pure_ (i := 0) (N := some 6) (v := ?_) (a' := ?_) #[true, false, false, false, false] rfl rfl (by kernel_rfl) (fun _ _ _ h => h) (Or.inl ⟨by rfl, ?_⟩) ?_ ?_
   rotate_left
   ·
    intro w'
    go_simp
    with_reducible rfl
   rotate_left
   ·
    simp only [Act.put, List.setIfInBounds_toArray, List.set_cons_zero, List.set_cons_succ, i64_w, i32_w]
    rfl
   refine take_ (i := 1) (N := some 7) (v := ?_) (a' := ?_) #[true, true, false, false, false] rfl rfl (by kernel_rfl) (fun _ _ _ h => h) (Or.inl ⟨by rfl, ?_⟩) hHeld ?_ ?_
   rotate_left
   ·
    rintro w' ⟨s0, s1, s2, s3⟩
    go_simp
    with_reducible rfl
   rotate_left
   ·
    simp only [Act.put, List.setIfInBounds_toArray, List.set_cons_zero, List.set_cons_succ, i64_w, i32_w]
    rfl
   refine take_ (i := 2) (N := some 8) (v := ?_) (a' := ?_) #[true, true, true, false, false] rfl rfl (by kernel_rfl) (fun _ _ _ h => h) (Or.inl ⟨by rfl, ?_⟩) hHeld ?_ ?_
   rotate_left
   ·
    rintro w' ⟨s0, s1, s2, s3⟩
    go_simp
    with_reducible rfl
   rotate_left
   ·
    simp only [Act.put, List.setIfInBounds_toArray, List.set_cons_zero, List.set_cons_succ, i64_w, i32_w]
    rfl
   refine one_ (i := 3) (N := some 9) #[true, true, true, true, false] rfl rfl (by kernel_rfl) (by decide) (fun K hK => ?_)
   refine goes_ Try.func28 (by kernel_rfl) rfl #[.agg #[.int .i64 a0_0, .int .i64 a0_1, .slice A0_2 l0_2.length c0_2, .int .u64 a0_3]] (by rfl) rfl rfl lz ?_
   with_reducible refine (upload_checksum.calls k a0_0 a0_1 _ _ l0_2 a0_3 t195 _ ?side1 ?side2 A4.out).mono ?_
   (case side1 => exact cz (Kd.C_below HR0_2.out HB.out))
   (case side2 => exact HC0_2.out)
   rintro e w10 ⟨rfl, hb⟩
   refine ⟨_, rfl, ?_⟩
   replace BK193 := am (blk_below (bz BK193.out) hb)
   replace HB := am (below_step (hz1 HB.out GE193.out) hb)
   (try clear hb)
   (try clear hb2)
   (try clear hk)
   (try clear hi)
   refine hK.out _ _ ⟨(blk_cell BK193.out 0).trans rfl, (blk_cell BK193.out 1).trans rfl, (blk_cell BK193.out 2).trans rfl, (blk_cell BK193.out 3).trans rfl⟩ (fun hHeld => ?_)
   clear hK K
   refine norm_ (a' := ?_) ?_ ?_
   rotate_left
   ·
    show Act.put _ (some 9) _ = _
    simp only [Act.put, List.setIfInBounds_toArray, List.set_cons_zero, List.set_cons_succ, i64_w, i32_w]
    rfl
   refine pure_ (i := 4) (N := some 10) (v := ?_) (a' := ?_) #[true, true, true, true, true] rfl rfl (by kernel_rfl) (fun _ _ _ h => h) (Or.inl ⟨by rfl, ?_⟩) ?_ ?_
   rotate_left
   ·
    intro w'
    go_simp
    with_reducible rfl
   rotate_left
   ·
    simp only [Act.put, List.setIfInBounds_toArray, List.set_cons_zero, List.set_cons_succ, i64_w, i32_w]
    rfl
   refine done_ (by kernel_rfl) ?_
   try go_wp2
   go_ret
   exact ⟨ez, hz1 HB.out GE193.out⟩
  ·
   rw [if_neg c5] at H
   have c5b0 : (a0_3 == t195) = false := beq_eq_false_iff_ne.mpr c5
   have c5b1 : (a0_3 != t195) = true := bne_iff_ne.mpr c5
   obtain rfl := Option.some.inj H
   go_enter Try.func37, Try.ntmps37
   try go_wp2_with (first | ((with_reducible refine gate_dst (N := 1) rfl ?_); refine box_event ?hg (N := 1) ?hd (cs := #[.int .i64 a0_0, .int .i64 a0_1, .slice A0_2 l0_2.length c0_2, .int .u64 a0_3]) (t := 25) ?hr ?_; (case hd => rfl); (case hg => rfl); (case hr => exact gz); intro gb193 hg w11 hbox hb; have BK193 := am (hbox); have GW193 := am ((bs hg (hz HB.out) : w.heap.size ≤ gb193)); have GE193 := am ((bs hg (hz HB.out) : w.heap.size ≤ gb193)); replace HB := am (below_step (hz HB.out) hb); clear hb hbox hg; obtain ⟨hcz12_0, hcz12_1, hcz12_2, hcz12_3⟩ := cs4 BK193.out; obtain ⟨hfz12_0, hfz12_1, hfz12_2, hfz12_3⟩ := fs4 BK193.out) | ((with_reducible refine gate_callee (f := 27) rfl ?_); refine goesL_ (some 4) rfl rfl Try.func27 (by kernel_rfl) rfl #[.agg #[.int .i64 a0_0, .int .i64 a0_1, .slice A0_2 l0_2.length c0_2, .int .u64 a0_3]] rfl lz ?_; (with_reducible refine (upload_fits.calls a0_0 a0_1 _ _ l0_2 a0_3 true _ ?side1 ?side2 A2.out).mono ?_); (case side1 => exact cz (Kd.C_below HR0_2.out HB.out)); (case side2 => exact HC0_2.out); rintro e w13 ⟨rfl, hb⟩; refine ⟨_, rfl, ?_⟩; replace BK193 := am (blk_below (bz BK193.out) hb); replace HB := am (below_step (hz1 HB.out GE193.out) hb); (try clear hb); (try clear hb2); (try clear hk); (try clear hi)))
   replace BK193 := am (blk_drew BK193.out)
   replace HB := am (below_drew1 HB.out)
   refine start_ (n := 5) (S := fun w' => w'.cell? ⟨gb193, 0, none⟩ = some (.int .i64 a0_0) ∧ w'.cell? ⟨gb193, 1, none⟩ = some (.int .i64 a0_1) ∧ w'.cell? ⟨gb193, 2, none⟩ = some (.slice A0_2 l0_2.length c0_2) ∧ w'.cell? ⟨gb193, 3, none⟩ = some (.int .u64 a0_3)) (ds := []) #[false, false, false, false, false] (by kernel_rfl) rfl rfl ⟨(blk_cell BK193.out 0).trans rfl, (blk_cell BK193.out 1).trans rfl, (blk_cell BK193.out 2).trans rfl, (blk_cell BK193.out 3).trans rfl⟩ (fun hHeld => ?_)
   generalize w13.drew = w14 at BK193 HB hHeld ⊢
   refine pure_ (i := 0) (N := some 6) (v := ?_) (a' := ?_) #[true, false, false, false, false] rfl rfl (by kernel_rfl) (fun _ _ _ h => h) (Or.inl ⟨by rfl, ?_⟩) ?_ ?_
   rotate_left
   ·
    intro w'
    go_simp
    with_reducible rfl
   rotate_left
   ·
    simp only [Act.put, List.setIfInBounds_toArray, List.set_cons_zero, List.set_cons_succ, i64_w, i32_w]
    rfl
   refine take_ (i := 1) (N := some 7) (v := ?_) (a' := ?_) #[true, true, false, false, false] rfl rfl (by kernel_rfl) (fun _ _ _ h => h) (Or.inl ⟨by rfl, ?_⟩) hHeld ?_ ?_
   rotate_left
   ·
    rintro w' ⟨s0, s1, s2, s3⟩
    go_simp
    with_reducible rfl
   rotate_left
   ·
    simp only [Act.put, List.setIfInBounds_toArray, List.set_cons_zero, List.set_cons_succ, i64_w, i32_w]
    rfl
   refine take_ (i := 2) (N := some 8) (v := ?_) (a' := ?_) #[true, true, true, false, false] rfl rfl (by kernel_rfl) (fun _ _ _ h => h) (Or.inl ⟨by rfl, ?_⟩) hHeld ?_ ?_
   rotate_left
   ·
    rintro w' ⟨s0, s1, s2, s3⟩
    go_simp
    with_reducible rfl
   rotate_left
   ·
    simp only [Act.put, List.setIfInBounds_toArray, List.set_cons_zero, List.set_cons_succ, i64_w, i32_w]
    rfl
   refine one_ (i := 3) (N := some 9) #[true, true, true, true, false] rfl rfl (by kernel_rfl) (by decide) (fun K hK => ?_)
   refine goes_ Try.func28 (by kernel_rfl) rfl #[.agg #[.int .i64 a0_0, .int .i64 a0_1, .slice A0_2 l0_2.length c0_2, .int .u64 a0_3]] (by rfl) rfl rfl lz ?_
   with_reducible refine (upload_checksum.calls k a0_0 a0_1 _ _ l0_2 a0_3 t195 _ ?side1 ?side2 A4.out).mono ?_
   (case side1 => exact cz (Kd.C_below HR0_2.out HB.out))
   (case side2 => exact HC0_2.out)
   rintro e w15 ⟨rfl, hb⟩
   refine ⟨_, rfl, ?_⟩
   replace BK193 := am (blk_below (bz BK193.out) hb)
   replace HB := am (below_step (hz1 HB.out GE193.out) hb)
   (try clear hb)
   (try clear hb2)
   (try clear hk)
   (try clear hi)
   refine hK.out _ _ ⟨(blk_cell BK193.out 0).trans rfl, (blk_cell BK193.out 1).trans rfl, (blk_cell BK193.out 2).trans rfl, (blk_cell BK193.out 3).trans rfl⟩ (fun hHeld => ?_)
   clear hK K
   refine norm_ (a' := ?_) ?_ ?_
   rotate_left
   ·
    show Act.put _ (some 9) _ = _
    simp only [Act.put, List.setIfInBounds_toArray, List.set_cons_zero, List.set_cons_succ, i64_w, i32_w]
    rfl
   refine pure_ (i := 4) (N := some 10) (v := ?_) (a' := ?_) #[true, true, true, true, true] rfl rfl (by kernel_rfl) (fun _ _ _ h => h) (Or.inl ⟨by rfl, ?_⟩) ?_ ?_
   rotate_left
   ·
    intro w'
    go_simp
    with_reducible rfl
   rotate_left
   ·
    simp only [Act.put, List.setIfInBounds_toArray, List.set_cons_zero, List.set_cons_succ, i64_w, i32_w]
    rfl
   refine done_ (by kernel_rfl) ?_
   try go_wp2
   go_ret
   exact ⟨ez, hz1 HB.out GE193.out⟩
 ·
  replace c3 := Bool.eq_false_iff.mpr c3
  subst c3
  have H1 : (some 3) = some r := by rw [if_neg (show ¬ (false = true) by decide)] at H; exact H
  clear H
  have H := H1
  clear H1
  obtain rfl := Option.some.inj H
  go_enter Try.func37, Try.ntmps37
  go_wp2_with (first | ((with_reducible refine gate_dst (N := 1) rfl ?_); refine box_event ?hg (N := 1) ?hd (cs := #[.int .i64 a0_0, .int .i64 a0_1, .slice A0_2 l0_2.length c0_2, .int .u64 a0_3]) (t := 25) ?hr ?_; (case hd => rfl); (case hg => rfl); (case hr => exact gz); intro gb193 hg w16 hbox hb; have BK193 := am (hbox); have GW193 := am ((bs hg (hz HB.out) : w.heap.size ≤ gb193)); have GE193 := am ((bs hg (hz HB.out) : w.heap.size ≤ gb193)); replace HB := am (below_step (hz HB.out) hb); clear hb hbox hg; obtain ⟨hcz17_0, hcz17_1, hcz17_2, hcz17_3⟩ := cs4 BK193.out; obtain ⟨hfz17_0, hfz17_1, hfz17_2, hfz17_3⟩ := fs4 BK193.out) | ((with_reducible refine gate_callee (f := 27) rfl ?_); refine goesL_ (some 4) rfl rfl Try.func27 (by kernel_rfl) rfl #[.agg #[.int .i64 a0_0, .int .i64 a0_1, .slice A0_2 l0_2.length c0_2, .int .u64 a0_3]] rfl lz ?_; (with_reducible refine (upload_fits.calls a0_0 a0_1 _ _ l0_2 a0_3 false _ ?side1 ?side2 A2.out).mono ?_); (case side1 => exact cz (Kd.C_below HR0_2.out HB.out)); (case side2 => exact HC0_2.out); rintro e w18 ⟨rfl, hb⟩; refine ⟨_, rfl, ?_⟩; replace BK193 := am (blk_below (bz BK193.out) hb); replace HB := am (below_step (hz1 HB.out GE193.out) hb); (try clear hb); (try clear hb2); (try clear hk); (try clear hi)))
  go_ret
  exact ⟨ez, hz1 HB.out GE193.out⟩

/-! ### upload_before: function 41 -/
def upload_before.f (a0_0 : Int) (a0_1 : Int) (l0_2 : List Int) (a0_3 : Int) (a1_0 : Int) (a1_1 : Int) (l1_2 : List Int) (a1_3 : Int) : Option (Bool) := if a0_1 < a1_1 then (some true) else (if a0_1 = a1_1 then (some (decide ((l0_2.length : Int) < (l1_2.length : Int)))) else (some false))
set_option maxHeartbeats 8000000 in
set_option maxRecDepth 100000 in
theorem upload_before.calls (a0_0 : Int) (a0_1 : Int) (A0_2 : Option Addr) (c0_2 : Nat) (l0_2 : List Int) (a0_3 : Int) (a1_0 : Int) (a1_1 : Int) (A1_2 : Option Addr) (c1_2 : Nat) (l1_2 : List Int) (a1_3 : Int) (r : Bool) (w : World) (hr0_2 : Kd.C (Kd.int .u8) w A0_2 l0_2.length l0_2) (hc0_2 : l0_2.length ≤ c0_2) (hr1_2 : Kd.C (Kd.int .u8) w A1_2 l1_2.length l1_2) (hc1_2 : l1_2.length ≤ c1_2) (h : upload_before.f a0_0 a0_1 l0_2 a0_3 a1_0 a1_1 l1_2 a1_3 = some r) :
  Calls Try.prog 41 #[.agg #[.int .i64 a0_0, .int .i64 a0_1, .slice A0_2 l0_2.length c0_2, .int .u64 a0_3], .agg #[.int .i64 a1_0, .int .i64 a1_1, .slice A1_2 l1_2.length c1_2, .int .u64 a1_3]] w fun e w' => e = .returned (.bool r) ∧ Below w.heap.size w w' := by
 have hu25 := Try.underlying25
 have HR0_2 := am hr0_2
 have HC0_2 := am hc0_2
 clear hr0_2 hc0_2
 have HR1_2 := am hr1_2
 have HC1_2 := am hc1_2
 clear hr1_2 hc1_2
 have HB := am (Below.refl w.heap.size w)
 have H : (if a0_1 < a1_1 then (some true) else (if a0_1 = a1_1 then (some (decide ((l0_2.length : Int) < (l1_2.length : Int)))) else (some false))) = some r := h
 clear h
 by_cases c3 : a0_1 < a1_1
 ·
  rw [if_pos c3] at H
  have c3b0 : decide (a0_1 < a1_1) = true := decide_eq_true c3
  clear c3
  obtain rfl := Option.some.inj H
  go_enter Try.func41, Try.ntmps41
  go_wp2_with (first | ((with_reducible refine gate_dst (N := 2) rfl ?_); (try (refine gate_guard (by rfl) ?_; dsimp only)); refine box_event ?hg (N := 2) ?hd (cs := #[.int .i64 a0_0, .int .i64 a0_1, .slice A0_2 l0_2.length c0_2, .int .u64 a0_3]) (t := 25) ?hr ?_; (case hd => rfl); (case hg => rfl); (case hr => exact gz); intro gb196 hg w4 hbox hb; have BK196 := am (hbox); have GW196 := am ((bs hg (hz HB.out) : w.heap.size ≤ gb196)); have GE196 := am ((bs hg (hz HB.out) : w.heap.size ≤ gb196)); replace HB := am (below_step (hz HB.out) hb); clear hb hbox hg) | ((with_reducible refine gate_dst (N := 3) rfl ?_); (try (refine gate_guard (by rfl) ?_; dsimp only)); refine box_event ?hg (N := 3) ?hd (cs := #[.int .i64 a1_0, .int .i64 a1_1, .slice A1_2 l1_2.length c1_2, .int .u64 a1_3]) (t := 25) ?hr ?_; (case hd => rfl); (case hg => rfl); (case hr => exact gz); intro gb197 hg w5 hbox hb; have BK197 := am (hbox); have GW197 := am ((bs hg (hz1 HB.out GE196.out) : w.heap.size ≤ gb197)); have GE197 := am ((bs hg (hz1 HB.out GE196.out) : w.heap.size ≤ gb197)); replace HB := am (below_step (hz1 HB.out GE196.out) hb); have NB196_197 := am ((nl hg (bz BK196.out) : gb196 ≠ gb197)); have NB197_196 := am ((ng hg (bz BK196.out) : gb197 ≠ gb196)); replace BK196 := am (blk_below (bz BK196.out) hb); clear hb hbox hg; have hnb6 := NB196_197.out; have hnc6 := NB197_196.out; obtain ⟨hcz7_0, hcz7_1, hcz7_2, hcz7_3⟩ := cs4 BK196.out; obtain ⟨hfz7_0, hfz7_1, hfz7_2, hfz7_3⟩ := fs4 BK196.out; obtain ⟨hcz8_0, hcz8_1, hcz8_2, hcz8_3⟩ := cs4 BK197.out; obtain ⟨hfz8_0, hfz8_1, hfz8_2, hfz8_3⟩ := fs4 BK197.out))
  go_ret
  exact ⟨ez, hz2 HB.out GE196.out GE197.out⟩
 ·
  rw [if_neg c3] at H
  have c3b0 : decide (a0_1 < a1_1) = false := decide_eq_false c3
  clear c3
  by_cases c9 : a0_1 = a1_1
  ·
   rw [if_pos c9] at H
   have c9b0 : (a0_1 == a1_1) = true := beq_iff_eq.mpr c9
   have c9b1 : (a0_1 != a1_1) = false := bne_eq_false_iff_eq.mpr c9
   clear c9
   obtain rfl := Option.some.inj H
   go_enter Try.func41, Try.ntmps41
   go_wp2_with (first | ((with_reducible refine gate_dst (N := 2) rfl ?_); (try (refine gate_guard (by rfl) ?_; dsimp only)); refine box_event ?hg (N := 2) ?hd (cs := #[.int .i64 a0_0, .int .i64 a0_1, .slice A0_2 l0_2.length c0_2, .int .u64 a0_3]) (t := 25) ?hr ?_; (case hd => rfl); (case hg => rfl); (case hr => exact gz); intro gb196 hg w10 hbox hb; have BK196 := am (hbox); have GW196 := am ((bs hg (hz HB.out) : w.heap.size ≤ gb196)); have GE196 := am ((bs hg (hz HB.out) : w.heap.size ≤ gb196)); replace HB := am (below_step (hz HB.out) hb); clear hb hbox hg) | ((with_reducible refine gate_dst (N := 3) rfl ?_); (try (refine gate_guard (by rfl) ?_; dsimp only)); refine box_event ?hg (N := 3) ?hd (cs := #[.int .i64 a1_0, .int .i64 a1_1, .slice A1_2 l1_2.length c1_2, .int .u64 a1_3]) (t := 25) ?hr ?_; (case hd => rfl); (case hg => rfl); (case hr => exact gz); intro gb197 hg w11 hbox hb; have BK197 := am (hbox); have GW197 := am ((bs hg (hz1 HB.out GE196.out) : w.heap.size ≤ gb197)); have GE197 := am ((bs hg (hz1 HB.out GE196.out) : w.heap.size ≤ gb197)); replace HB := am (below_step (hz1 HB.out GE196.out) hb); have NB196_197 := am ((nl hg (bz BK196.out) : gb196 ≠ gb197)); have NB197_196 := am ((ng hg (bz BK196.out) : gb197 ≠ gb196)); replace BK196 := am (blk_below (bz BK196.out) hb); clear hb hbox hg; have hnb12 := NB196_197.out; have hnc12 := NB197_196.out; obtain ⟨hcz13_0, hcz13_1, hcz13_2, hcz13_3⟩ := cs4 BK196.out; obtain ⟨hfz13_0, hfz13_1, hfz13_2, hfz13_3⟩ := fs4 BK196.out; obtain ⟨hcz14_0, hcz14_1, hcz14_2, hcz14_3⟩ := cs4 BK197.out; obtain ⟨hfz14_0, hfz14_1, hfz14_2, hfz14_3⟩ := fs4 BK197.out))
   go_ret
   exact ⟨ez, hz2 HB.out GE196.out GE197.out⟩
  ·
   rw [if_neg c9] at H
   have c9b0 : (a0_1 == a1_1) = false := beq_eq_false_iff_ne.mpr c9
   have c9b1 : (a0_1 != a1_1) = true := bne_iff_ne.mpr c9
   obtain rfl := Option.some.inj H
   go_enter Try.func41, Try.ntmps41
   go_wp2_with (first | ((with_reducible refine gate_dst (N := 2) rfl ?_); (try (refine gate_guard (by rfl) ?_; dsimp only)); refine box_event ?hg (N := 2) ?hd (cs := #[.int .i64 a0_0, .int .i64 a0_1, .slice A0_2 l0_2.length c0_2, .int .u64 a0_3]) (t := 25) ?hr ?_; (case hd => rfl); (case hg => rfl); (case hr => exact gz); intro gb196 hg w15 hbox hb; have BK196 := am (hbox); have GW196 := am ((bs hg (hz HB.out) : w.heap.size ≤ gb196)); have GE196 := am ((bs hg (hz HB.out) : w.heap.size ≤ gb196)); replace HB := am (below_step (hz HB.out) hb); clear hb hbox hg) | ((with_reducible refine gate_dst (N := 3) rfl ?_); (try (refine gate_guard (by rfl) ?_; dsimp only)); refine box_event ?hg (N := 3) ?hd (cs := #[.int .i64 a1_0, .int .i64 a1_1, .slice A1_2 l1_2.length c1_2, .int .u64 a1_3]) (t := 25) ?hr ?_; (case hd => rfl); (case hg => rfl); (case hr => exact gz); intro gb197 hg w16 hbox hb; have BK197 := am (hbox); have GW197 := am ((bs hg (hz1 HB.out GE196.out) : w.heap.size ≤ gb197)); have GE197 := am ((bs hg (hz1 HB.out GE196.out) : w.heap.size ≤ gb197)); replace HB := am (below_step (hz1 HB.out GE196.out) hb); have NB196_197 := am ((nl hg (bz BK196.out) : gb196 ≠ gb197)); have NB197_196 := am ((ng hg (bz BK196.out) : gb197 ≠ gb196)); replace BK196 := am (blk_below (bz BK196.out) hb); clear hb hbox hg; have hnb17 := NB196_197.out; have hnc17 := NB197_196.out; obtain ⟨hcz18_0, hcz18_1, hcz18_2, hcz18_3⟩ := cs4 BK196.out; obtain ⟨hfz18_0, hfz18_1, hfz18_2, hfz18_3⟩ := fs4 BK196.out; obtain ⟨hcz19_0, hcz19_1, hcz19_2, hcz19_3⟩ := cs4 BK197.out; obtain ⟨hfz19_0, hfz19_1, hfz19_2, hfz19_3⟩ := fs4 BK197.out))
   go_ret
   exact ⟨ez, hz2 HB.out GE196.out GE197.out⟩

/-! ### bytes_Equal: function 55 -/
def bytes_Equal.f (l0 : List Int) (l1 : List Int) : Option (Bool) := some ((strOfNums l0).toList == (strOfNums l1).toList)
set_option maxHeartbeats 8000000 in
set_option maxRecDepth 100000 in
theorem bytes_Equal.calls (A0 : Option Addr) (c0 : Nat) (l0 : List Int) (A1 : Option Addr) (c1 : Nat) (l1 : List Int) (r : Bool) (w : World) (hr0 : Kd.C (Kd.int .u8) w A0 l0.length l0) (hc0 : l0.length ≤ c0) (hr1 : Kd.C (Kd.int .u8) w A1 l1.length l1) (hc1 : l1.length ≤ c1) (h : bytes_Equal.f l0 l1 = some r) :
  Calls Try.prog 55 #[.slice A0 l0.length c0, .slice A1 l1.length c1] w fun e w' => e = .returned (.bool r) ∧ Drawn0 w w' := by
 have HR0 := am hr0
 have HC0 := am hc0
 clear hr0 hc0
 have HR1 := am hr1
 have HC1 := am hc1
 clear hr1 hc1
 have H : (some ((strOfNums l0).toList == (strOfNums l1).toList)) = some r := h
 clear h
 obtain rfl := Option.some.inj H
 have hcv3 := Kd.C_string (P := Try.prog) (A := A0) (c := c0) Try.underlying22 Try.underlying5 Try.underlying9 HR0.out
 have hcv4 := Kd.C_string (P := Try.prog) (A := A1) (c := c1) Try.underlying22 Try.underlying5 Try.underlying9 HR1.out
 go_enter Try.func55, Try.ntmps55
 go_wp2
 go_ret
 exact ⟨by first | rfl | (simp; done) | (simp [*]; done), by repeat (first | exact Drawn0.refl _ | apply Drawn0.step)⟩

/-! ### upload_agree: function 52 -/
def upload_agree.f (l0 : List Int) (a1 : Int) (l2 : List Int) (a3 : Int) : Option (Bool) := if (mx a1 a3) ≥ (mn (wrap64 (a1 + (l0.length : Int))) (wrap64 (a3 + (l2.length : Int)))) then (some true) else (if 0 ≤ (wrap64 ((mx a1 a3) - a1)) then (if (wrap64 ((mx a1 a3) - a1)) ≤ (wrap64 ((mn (wrap64 (a1 + (l0.length : Int))) (wrap64 (a3 + (l2.length : Int)))) - a1)) then (if (wrap64 ((mn (wrap64 (a1 + (l0.length : Int))) (wrap64 (a3 + (l2.length : Int)))) - a1)) ≤ (l0.length : Int) then (if 0 ≤ (wrap64 ((mx a1 a3) - a3)) then (if (wrap64 ((mx a1 a3) - a3)) ≤ (wrap64 ((mn (wrap64 (a1 + (l0.length : Int))) (wrap64 (a3 + (l2.length : Int)))) - a3)) then (if (wrap64 ((mn (wrap64 (a1 + (l0.length : Int))) (wrap64 (a3 + (l2.length : Int)))) - a3)) ≤ (l2.length : Int) then ((bytes_Equal.f ((l0.take ((wrap64 ((mn (wrap64 (a1 + (l0.length : Int))) (wrap64 (a3 + (l2.length : Int)))) - a1)) : Int).toNat).drop ((wrap64 ((mx a1 a3) - a1)) : Int).toNat) ((l2.take ((wrap64 ((mn (wrap64 (a1 + (l0.length : Int))) (wrap64 (a3 + (l2.length : Int)))) - a3)) : Int).toNat).drop ((wrap64 ((mx a1 a3) - a3)) : Int).toNat)).bind fun t200 => (some t200)) else (none)) else (none)) else (none)) else (none)) else (none)) else (none))
set_option maxHeartbeats 8000000 in
set_option maxRecDepth 100000 in
theorem upload_agree.calls (A0 : Option Addr) (c0 : Nat) (l0 : List Int) (a1 : Int) (A2 : Option Addr) (c2 : Nat) (l2 : List Int) (a3 : Int) (r : Bool) (w : World) (hr0 : Kd.C (Kd.int .u8) w A0 l0.length l0) (hc0 : l0.length ≤ c0) (hr2 : Kd.C (Kd.int .u8) w A2 l2.length l2) (hc2 : l2.length ≤ c2) (h : upload_agree.f l0 a1 l2 a3 = some r) :
  Calls Try.prog 52 #[.slice A0 l0.length c0, .int .i64 a1, .slice A2 l2.length c2, .int .i64 a3] w fun e w' => e = .returned (.bool r) ∧ Below w.heap.size w w' := by
 have HR0 := am hr0
 have HC0 := am hc0
 clear hr0 hc0
 have HR2 := am hr2
 have HC2 := am hc2
 clear hr2 hc2
 have HB := am (Below.refl w.heap.size w)
 have H : (if (mx a1 a3) ≥ (mn (wrap64 (a1 + (l0.length : Int))) (wrap64 (a3 + (l2.length : Int)))) then (some true) else (if 0 ≤ (wrap64 ((mx a1 a3) - a1)) then (if (wrap64 ((mx a1 a3) - a1)) ≤ (wrap64 ((mn (wrap64 (a1 + (l0.length : Int))) (wrap64 (a3 + (l2.length : Int)))) - a1)) then (if (wrap64 ((mn (wrap64 (a1 + (l0.length : Int))) (wrap64 (a3 + (l2.length : Int)))) - a1)) ≤ (l0.length : Int) then (if 0 ≤ (wrap64 ((mx a1 a3) - a3)) then (if (wrap64 ((mx a1 a3) - a3)) ≤ (wrap64 ((mn (wrap64 (a1 + (l0.length : Int))) (wrap64 (a3 + (l2.length : Int)))) - a3)) then (if (wrap64 ((mn (wrap64 (a1 + (l0.length : Int))) (wrap64 (a3 + (l2.length : Int)))) - a3)) ≤ (l2.length : Int) then ((bytes_Equal.f ((l0.take ((wrap64 ((mn (wrap64 (a1 + (l0.length : Int))) (wrap64 (a3 + (l2.length : Int)))) - a1)) : Int).toNat).drop ((wrap64 ((mx a1 a3) - a1)) : Int).toNat) ((l2.take ((wrap64 ((mn (wrap64 (a1 + (l0.length : Int))) (wrap64 (a3 + (l2.length : Int)))) - a3)) : Int).toNat).drop ((wrap64 ((mx a1 a3) - a3)) : Int).toNat)).bind fun t200 => (some t200)) else (none)) else (none)) else (none)) else (none)) else (none)) else (none))) = some r := h
 clear h
 obtain ⟨ji5, hji5⟩ : ∃ j_ : Int, (mx a1 a3) = j_ := ⟨_, rfl⟩
 replace H : (if (ji5) ≥ (mn (wrap64 (a1 + (l0.length : Int))) (wrap64 (a3 + (l2.length : Int)))) then (some true) else (if 0 ≤ (wrap64 ((ji5) - a1)) then (if (wrap64 ((ji5) - a1)) ≤ (wrap64 ((mn (wrap64 (a1 + (l0.length : Int))) (wrap64 (a3 + (l2.length : Int)))) - a1)) then (if (wrap64 ((mn (wrap64 (a1 + (l0.length : Int))) (wrap64 (a3 + (l2.length : Int)))) - a1)) ≤ (l0.length : Int) then (if 0 ≤ (wrap64 ((ji5) - a3)) then (if (wrap64 ((ji5) - a3)) ≤ (wrap64 ((mn (wrap64 (a1 + (l0.length : Int))) (wrap64 (a3 + (l2.length : Int)))) - a3)) then (if (wrap64 ((mn (wrap64 (a1 + (l0.length : Int))) (wrap64 (a3 + (l2.length : Int)))) - a3)) ≤ (l2.length : Int) then ((bytes_Equal.f ((l0.take ((wrap64 ((mn (wrap64 (a1 + (l0.length : Int))) (wrap64 (a3 + (l2.length : Int)))) - a1)) : Int).toNat).drop ((wrap64 ((ji5) - a1)) : Int).toNat) ((l2.take ((wrap64 ((mn (wrap64 (a1 + (l0.length : Int))) (wrap64 (a3 + (l2.length : Int)))) - a3)) : Int).toNat).drop ((wrap64 ((ji5) - a3)) : Int).toNat)).bind fun t200 => (some t200)) else (none)) else (none)) else (none)) else (none)) else (none)) else (none))) = some r := by first | (rw [hji5] at H; exact H) | (simp only [hji5] at H ⊢; exact H)
 have hji5_ : (if a1 < a3 then a3 else a1) = ji5 := hji5
 obtain ⟨ji6, hji6⟩ : ∃ j_ : Int, (mn (wrap64 (a1 + (l0.length : Int))) (wrap64 (a3 + (l2.length : Int)))) = j_ := ⟨_, rfl⟩
 replace H : (if (ji5) ≥ (ji6) then (some true) else (if 0 ≤ (wrap64 ((ji5) - a1)) then (if (wrap64 ((ji5) - a1)) ≤ (wrap64 ((ji6) - a1)) then (if (wrap64 ((ji6) - a1)) ≤ (l0.length : Int) then (if 0 ≤ (wrap64 ((ji5) - a3)) then (if (wrap64 ((ji5) - a3)) ≤ (wrap64 ((ji6) - a3)) then (if (wrap64 ((ji6) - a3)) ≤ (l2.length : Int) then ((bytes_Equal.f ((l0.take ((wrap64 ((ji6) - a1)) : Int).toNat).drop ((wrap64 ((ji5) - a1)) : Int).toNat) ((l2.take ((wrap64 ((ji6) - a3)) : Int).toNat).drop ((wrap64 ((ji5) - a3)) : Int).toNat)).bind fun t200 => (some t200)) else (none)) else (none)) else (none)) else (none)) else (none)) else (none))) = some r := by first | (rw [hji6] at H; exact H) | (simp only [hji6] at H ⊢; exact H)
 have hji6_ : (if (wrap64 (a3 + (l2.length : Int))) < (wrap64 (a1 + (l0.length : Int))) then (wrap64 (a3 + (l2.length : Int))) else (wrap64 (a1 + (l0.length : Int)))) = ji6 := hji6
 by_cases c7 : (ji5) ≥ (ji6)
 ·
  rw [if_pos c7] at H
  have c7b0 : decide ((ji6) ≤ (ji5)) = true := decide_eq_true c7
  clear c7
  obtain rfl := Option.some.inj H
  go_enter Try.func52, Try.ntmps52
  go_wp2
  repeat (go_quiet (fail); try go_wp2)
  go_ret
  exact ⟨by first | rfl | (simp [errW_none, errW_some] <;> rfl) | (simp only [← hji5, ← hji6]; first | rfl | (simp [errW_none, errW_some] <;> rfl)) | (simp [*, errW_none, errW_some] <;> rfl), hz HB.out⟩
 ·
  rw [if_neg c7] at H
  have c7b0 : decide ((ji6) ≤ (ji5)) = false := decide_eq_false c7
  clear c7
  obtain ⟨ji8, hji8⟩ : ∃ j_ : Int, (wrap64 ((ji5) - a1)) = j_ := ⟨_, rfl⟩
  replace H : (if 0 ≤ (ji8) then (if (ji8) ≤ (wrap64 ((ji6) - a1)) then (if (wrap64 ((ji6) - a1)) ≤ (l0.length : Int) then (if 0 ≤ (wrap64 ((ji5) - a3)) then (if (wrap64 ((ji5) - a3)) ≤ (wrap64 ((ji6) - a3)) then (if (wrap64 ((ji6) - a3)) ≤ (l2.length : Int) then ((bytes_Equal.f ((l0.take ((wrap64 ((ji6) - a1)) : Int).toNat).drop ((ji8) : Int).toNat) ((l2.take ((wrap64 ((ji6) - a3)) : Int).toNat).drop ((wrap64 ((ji5) - a3)) : Int).toNat)).bind fun t200 => (some t200)) else (none)) else (none)) else (none)) else (none)) else (none)) else (none)) = some r := by first | (rw [hji8] at H; exact H) | (simp only [hji8] at H ⊢; exact H)
  have hji8w : (IntKind.i64.wrap ((ji5) - a1)) = ji8 := (i64_w _).trans hji8
  replace H := it_ H
  obtain ⟨c9, H⟩ := H
  have c9b0 := eq_true c9
  have c9b1 : decide (0 ≤ (ji8)) = true := decide_eq_true c9
  clear c9
  replace H := it_ H
  obtain ⟨c10, H⟩ := H
  have c10b0 := eq_true c10
  have c10b1 : decide ((ji8) ≤ (wrap64 ((ji6) - a1))) = true := decide_eq_true c10
  clear c10
  replace H := it_ H
  obtain ⟨c11, H⟩ := H
  have c11b0 := eq_true c11
  have c11b1 : decide ((wrap64 ((ji6) - a1)) ≤ (l0.length : Int)) = true := decide_eq_true c11
  clear c11
  obtain ⟨ji12, hji12⟩ : ∃ j_ : Int, (wrap64 ((ji5) - a3)) = j_ := ⟨_, rfl⟩
  replace H : (if 0 ≤ (ji12) then (if (ji12) ≤ (wrap64 ((ji6) - a3)) then (if (wrap64 ((ji6) - a3)) ≤ (l2.length : Int) then ((bytes_Equal.f ((l0.take ((wrap64 ((ji6) - a1)) : Int).toNat).drop ((ji8) : Int).toNat) ((l2.take ((wrap64 ((ji6) - a3)) : Int).toNat).drop ((ji12) : Int).toNat)).bind fun t200 => (some t200)) else (none)) else (none)) else (none)) = some r := by first | (rw [hji12] at H; exact H) | (simp only [hji12] at H ⊢; exact H)
  have hji12w : (IntKind.i64.wrap ((ji5) - a3)) = ji12 := (i64_w _).trans hji12
  replace H := it_ H
  obtain ⟨c13, H⟩ := H
  have c13b0 := eq_true c13
  have c13b1 : decide (0 ≤ (ji12)) = true := decide_eq_true c13
  clear c13
  replace H := it_ H
  obtain ⟨c14, H⟩ := H
  have c14b0 := eq_true c14
  have c14b1 : decide ((ji12) ≤ (wrap64 ((ji6) - a3))) = true := decide_eq_true c14
  clear c14
  replace H := it_ H
  obtain ⟨c15, H⟩ := H
  have c15b0 := eq_true c15
  have c15b1 : decide ((wrap64 ((ji6) - a3)) ≤ (l2.length : Int)) = true := decide_eq_true c15
  clear c15
  replace H := Option.bind_eq_some_iff.mp H
  obtain ⟨t200, A160, H⟩ := H
  replace H : (some t200) = some r := H
  have A16 := am A160
  clear A160
  obtain rfl := Option.some.inj H
  obtain ⟨i017, hi017, _, hsz17, _⟩ := info_parts info5
  obtain ⟨A17, hcut17, hA17, hC17⟩ := print_mid_of (P := Try.prog) (Value.int .u8) 0 22 5 .i64 .i64 Try.underlying22 hi017 hsz17 A0 c0 l0 (ji8) (wrap64 ((ji6) - a1)) (of_decide_eq_true az) (by first | omega | exact of_decide_eq_true az) (of_decide_eq_true az) HC0.out
  have HR198 := am (Kd.C_of_reads (h1 := fun _ => rfl) (hA17 _ (Kd.reads_of_C HR0.out)))
  have HC198 := am hC17
  clear hA17 hC17 hi017 hsz17
  obtain ⟨i018, hi018, _, hsz18, _⟩ := info_parts info5
  obtain ⟨A18, hcut18, hA18, hC18⟩ := print_mid_of (P := Try.prog) (Value.int .u8) 0 22 5 .i64 .i64 Try.underlying22 hi018 hsz18 A2 c2 l2 (ji12) (wrap64 ((ji6) - a3)) (of_decide_eq_true az) (by first | omega | exact of_decide_eq_true az) (of_decide_eq_true az) HC2.out
  have HR199 := am (Kd.C_of_reads (h1 := fun _ => rfl) (hA18 _ (Kd.reads_of_C HR2.out)))
  have HC199 := am hC18
  clear hA18 hC18 hi018 hsz18
  go_enter Try.func52, Try.ntmps52
  go_wp2_with (first | (go_at_call 55; refine calls_of_args (args' := #[.slice A17 ((l0.take ((wrap64 ((ji6) - a1)) : Int).toNat).drop ((ji8) : Int).toNat).length (c0 - (ji8).toNat), .slice A18 ((l2.take ((wrap64 ((ji6) - a3)) : Int).toNat).drop ((ji12) : Int).toNat).length (c2 - (ji12).toNat)]) ?hargs ?_; (case hargs => first | rfl | (rw [show ((l0.take ((wrap64 ((ji6) - a1)) : Int).toNat).drop ((ji8) : Int).toNat).length = ((wrap64 ((ji6) - a1)).toNat - (ji8).toNat) from (by rw [List.length_drop, List.length_take]; have h_ : ((wrap64 ((ji6) - a1)) : Int) ≤ (l0.length : Int) := of_decide_eq_true az; omega), show ((l2.take ((wrap64 ((ji6) - a3)) : Int).toNat).drop ((ji12) : Int).toNat).length = ((wrap64 ((ji6) - a3)).toNat - (ji12).toNat) from (by rw [List.length_drop, List.length_take]; have h_ : ((wrap64 ((ji6) - a3)) : Int) ≤ (l2.length : Int) := of_decide_eq_true az; omega)]; done) | (rw [show ((l0.take ((wrap64 ((ji6) - a1)) : Int).toNat).drop ((ji8) : Int).toNat).length = ((wrap64 ((ji6) - a1)).toNat - (ji8).toNat) from (by rw [List.length_drop, List.length_take]; have h_ : ((wrap64 ((ji6) - a1)) : Int) ≤ (l0.length : Int) := of_decide_eq_true az; omega), show ((l2.take ((wrap64 ((ji6) - a3)) : Int).toNat).drop ((ji12) : Int).toNat).length = ((wrap64 ((ji6) - a3)).toNat - (ji12).toNat) from (by rw [List.length_drop, List.length_take]; have h_ : ((wrap64 ((ji6) - a3)) : Int) ≤ (l2.length : Int) := of_decide_eq_true az; omega)]; rfl) | (rw [show ((l0.take ((wrap64 ((ji6) - a1)) : Int).toNat).drop ((ji8) : Int).toNat).length = ((wrap64 ((ji6) - a1)).toNat - (ji8).toNat) from (by rw [List.length_drop, List.length_take]; have h_ : ((wrap64 ((ji6) - a1)) : Int) ≤ (l0.length : Int) := of_decide_eq_true az; omega), show ((l2.take ((wrap64 ((ji6) - a3)) : Int).toNat).drop ((ji12) : Int).toNat).length = ((wrap64 ((ji6) - a3)).toNat - (ji12).toNat) from (by rw [List.length_drop, List.length_take]; have h_ : ((wrap64 ((ji6) - a3)) : Int) ≤ (l2.length : Int) := of_decide_eq_true az; omega)]; simp only [List.length_drop, List.length_take]; done) | (rw [show ((l0.take ((wrap64 ((ji6) - a1)) : Int).toNat).drop ((ji8) : Int).toNat).length = ((wrap64 ((ji6) - a1)).toNat - (ji8).toNat) from (by rw [List.length_drop, List.length_take]; have h_ : ((wrap64 ((ji6) - a1)) : Int) ≤ (l0.length : Int) := of_decide_eq_true az; omega), show ((l2.take ((wrap64 ((ji6) - a3)) : Int).toNat).drop ((ji12) : Int).toNat).length = ((wrap64 ((ji6) - a3)).toNat - (ji12).toNat) from (by rw [List.length_drop, List.length_take]; have h_ : ((wrap64 ((ji6) - a3)) : Int) ≤ (l2.length : Int) := of_decide_eq_true az; omega)]; (simp only [List.length_drop, List.length_take]); rfl) | (rw [show ((l0.take ((wrap64 ((ji6) - a1)) : Int).toNat).drop ((ji8) : Int).toNat).length = ((wrap64 ((ji6) - a1)).toNat - (ji8).toNat) from (by rw [List.length_drop, List.length_take]; have h_ : ((wrap64 ((ji6) - a1)) : Int) ≤ (l0.length : Int) := of_decide_eq_true az; omega)]; done) | (rw [show ((l0.take ((wrap64 ((ji6) - a1)) : Int).toNat).drop ((ji8) : Int).toNat).length = ((wrap64 ((ji6) - a1)).toNat - (ji8).toNat) from (by rw [List.length_drop, List.length_take]; have h_ : ((wrap64 ((ji6) - a1)) : Int) ≤ (l0.length : Int) := of_decide_eq_true az; omega)]; rfl) | (rw [show ((l0.take ((wrap64 ((ji6) - a1)) : Int).toNat).drop ((ji8) : Int).toNat).length = ((wrap64 ((ji6) - a1)).toNat - (ji8).toNat) from (by rw [List.length_drop, List.length_take]; have h_ : ((wrap64 ((ji6) - a1)) : Int) ≤ (l0.length : Int) := of_decide_eq_true az; omega)]; simp only [List.length_drop, List.length_take]; done) | (rw [show ((l0.take ((wrap64 ((ji6) - a1)) : Int).toNat).drop ((ji8) : Int).toNat).length = ((wrap64 ((ji6) - a1)).toNat - (ji8).toNat) from (by rw [List.length_drop, List.length_take]; have h_ : ((wrap64 ((ji6) - a1)) : Int) ≤ (l0.length : Int) := of_decide_eq_true az; omega)]; (simp only [List.length_drop, List.length_take]); rfl) | (rw [show ((l2.take ((wrap64 ((ji6) - a3)) : Int).toNat).drop ((ji12) : Int).toNat).length = ((wrap64 ((ji6) - a3)).toNat - (ji12).toNat) from (by rw [List.length_drop, List.length_take]; have h_ : ((wrap64 ((ji6) - a3)) : Int) ≤ (l2.length : Int) := of_decide_eq_true az; omega)]; done) | (rw [show ((l2.take ((wrap64 ((ji6) - a3)) : Int).toNat).drop ((ji12) : Int).toNat).length = ((wrap64 ((ji6) - a3)).toNat - (ji12).toNat) from (by rw [List.length_drop, List.length_take]; have h_ : ((wrap64 ((ji6) - a3)) : Int) ≤ (l2.length : Int) := of_decide_eq_true az; omega)]; rfl) | (rw [show ((l2.take ((wrap64 ((ji6) - a3)) : Int).toNat).drop ((ji12) : Int).toNat).length = ((wrap64 ((ji6) - a3)).toNat - (ji12).toNat) from (by rw [List.length_drop, List.length_take]; have h_ : ((wrap64 ((ji6) - a3)) : Int) ≤ (l2.length : Int) := of_decide_eq_true az; omega)]; simp only [List.length_drop, List.length_take]; done) | (rw [show ((l2.take ((wrap64 ((ji6) - a3)) : Int).toNat).drop ((ji12) : Int).toNat).length = ((wrap64 ((ji6) - a3)).toNat - (ji12).toNat) from (by rw [List.length_drop, List.length_take]; have h_ : ((wrap64 ((ji6) - a3)) : Int) ≤ (l2.length : Int) := of_decide_eq_true az; omega)]; (simp only [List.length_drop, List.length_take]); rfl) | (simp only [List.length_drop, List.length_take]; done) | (simp only [List.length_drop, List.length_take]; rfl)); (with_reducible refine (bytes_Equal.calls _ _ ((l0.take ((wrap64 ((ji6) - a1)) : Int).toNat).drop ((ji8) : Int).toNat) _ _ ((l2.take ((wrap64 ((ji6) - a3)) : Int).toNat).drop ((ji12) : Int).toNat) t200 _ ?side1 ?side2 ?side3 ?side4 A16.out).mono ?_); (case side1 => repeat (first | exact HR198.out | (with_reducible refine Kd.C_alloc ?_ _) | (with_reducible refine Kd.C_drewN ?_ _) | (with_reducible refine Kd.C_drew ?_))); (case side2 => exact HC198.out); (case side3 => repeat (first | exact HR199.out | (with_reducible refine Kd.C_alloc ?_ _) | (with_reducible refine Kd.C_drewN ?_ _) | (with_reducible refine Kd.C_drew ?_))); (case side4 => exact HC199.out); rintro e w' ⟨rfl, ⟨nd, rfl⟩⟩; (try first | exact ⟨rfl, _, World.drewN_drewN _ _ _⟩ | exact ⟨rfl, _, Eq.trans (World.drewN_drewN _ _ _) (congrArg (World.drewN _) (Nat.add_assoc _ _ _))⟩)))
  repeat (go_quiet (first | (go_at_call 55; refine calls_of_args (args' := #[.slice A17 ((l0.take ((wrap64 ((ji6) - a1)) : Int).toNat).drop ((ji8) : Int).toNat).length (c0 - (ji8).toNat), .slice A18 ((l2.take ((wrap64 ((ji6) - a3)) : Int).toNat).drop ((ji12) : Int).toNat).length (c2 - (ji12).toNat)]) ?hargs ?_; (case hargs => first | rfl | (rw [show ((l0.take ((wrap64 ((ji6) - a1)) : Int).toNat).drop ((ji8) : Int).toNat).length = ((wrap64 ((ji6) - a1)).toNat - (ji8).toNat) from (by rw [List.length_drop, List.length_take]; have h_ : ((wrap64 ((ji6) - a1)) : Int) ≤ (l0.length : Int) := of_decide_eq_true az; omega), show ((l2.take ((wrap64 ((ji6) - a3)) : Int).toNat).drop ((ji12) : Int).toNat).length = ((wrap64 ((ji6) - a3)).toNat - (ji12).toNat) from (by rw [List.length_drop, List.length_take]; have h_ : ((wrap64 ((ji6) - a3)) : Int) ≤ (l2.length : Int) := of_decide_eq_true az; omega)]; done) | (rw [show ((l0.take ((wrap64 ((ji6) - a1)) : Int).toNat).drop ((ji8) : Int).toNat).length = ((wrap64 ((ji6) - a1)).toNat - (ji8).toNat) from (by rw [List.length_drop, List.length_take]; have h_ : ((wrap64 ((ji6) - a1)) : Int) ≤ (l0.length : Int) := of_decide_eq_true az; omega), show ((l2.take ((wrap64 ((ji6) - a3)) : Int).toNat).drop ((ji12) : Int).toNat).length = ((wrap64 ((ji6) - a3)).toNat - (ji12).toNat) from (by rw [List.length_drop, List.length_take]; have h_ : ((wrap64 ((ji6) - a3)) : Int) ≤ (l2.length : Int) := of_decide_eq_true az; omega)]; rfl) | (rw [show ((l0.take ((wrap64 ((ji6) - a1)) : Int).toNat).drop ((ji8) : Int).toNat).length = ((wrap64 ((ji6) - a1)).toNat - (ji8).toNat) from (by rw [List.length_drop, List.length_take]; have h_ : ((wrap64 ((ji6) - a1)) : Int) ≤ (l0.length : Int) := of_decide_eq_true az; omega), show ((l2.take ((wrap64 ((ji6) - a3)) : Int).toNat).drop ((ji12) : Int).toNat).length = ((wrap64 ((ji6) - a3)).toNat - (ji12).toNat) from (by rw [List.length_drop, List.length_take]; have h_ : ((wrap64 ((ji6) - a3)) : Int) ≤ (l2.length : Int) := of_decide_eq_true az; omega)]; simp only [List.length_drop, List.length_take]; done) | (rw [show ((l0.take ((wrap64 ((ji6) - a1)) : Int).toNat).drop ((ji8) : Int).toNat).length = ((wrap64 ((ji6) - a1)).toNat - (ji8).toNat) from (by rw [List.length_drop, List.length_take]; have h_ : ((wrap64 ((ji6) - a1)) : Int) ≤ (l0.length : Int) := of_decide_eq_true az; omega), show ((l2.take ((wrap64 ((ji6) - a3)) : Int).toNat).drop ((ji12) : Int).toNat).length = ((wrap64 ((ji6) - a3)).toNat - (ji12).toNat) from (by rw [List.length_drop, List.length_take]; have h_ : ((wrap64 ((ji6) - a3)) : Int) ≤ (l2.length : Int) := of_decide_eq_true az; omega)]; (simp only [List.length_drop, List.length_take]); rfl) | (rw [show ((l0.take ((wrap64 ((ji6) - a1)) : Int).toNat).drop ((ji8) : Int).toNat).length = ((wrap64 ((ji6) - a1)).toNat - (ji8).toNat) from (by rw [List.length_drop, List.length_take]; have h_ : ((wrap64 ((ji6) - a1)) : Int) ≤ (l0.length : Int) := of_decide_eq_true az; omega)]; done) | (rw [show ((l0.take ((wrap64 ((ji6) - a1)) : Int).toNat).drop ((ji8) : Int).toNat).length = ((wrap64 ((ji6) - a1)).toNat - (ji8).toNat) from (by rw [List.length_drop, List.length_take]; have h_ : ((wrap64 ((ji6) - a1)) : Int) ≤ (l0.length : Int) := of_decide_eq_true az; omega)]; rfl) | (rw [show ((l0.take ((wrap64 ((ji6) - a1)) : Int).toNat).drop ((ji8) : Int).toNat).length = ((wrap64 ((ji6) - a1)).toNat - (ji8).toNat) from (by rw [List.length_drop, List.length_take]; have h_ : ((wrap64 ((ji6) - a1)) : Int) ≤ (l0.length : Int) := of_decide_eq_true az; omega)]; simp only [List.length_drop, List.length_take]; done) | (rw [show ((l0.take ((wrap64 ((ji6) - a1)) : Int).toNat).drop ((ji8) : Int).toNat).length = ((wrap64 ((ji6) - a1)).toNat - (ji8).toNat) from (by rw [List.length_drop, List.length_take]; have h_ : ((wrap64 ((ji6) - a1)) : Int) ≤ (l0.length : Int) := of_decide_eq_true az; omega)]; (simp only [List.length_drop, List.length_take]); rfl) | (rw [show ((l2.take ((wrap64 ((ji6) - a3)) : Int).toNat).drop ((ji12) : Int).toNat).length = ((wrap64 ((ji6) - a3)).toNat - (ji12).toNat) from (by rw [List.length_drop, List.length_take]; have h_ : ((wrap64 ((ji6) - a3)) : Int) ≤ (l2.length : Int) := of_decide_eq_true az; omega)]; done) | (rw [show ((l2.take ((wrap64 ((ji6) - a3)) : Int).toNat).drop ((ji12) : Int).toNat).length = ((wrap64 ((ji6) - a3)).toNat - (ji12).toNat) from (by rw [List.length_drop, List.length_take]; have h_ : ((wrap64 ((ji6) - a3)) : Int) ≤ (l2.length : Int) := of_decide_eq_true az; omega)]; rfl) | (rw [show ((l2.take ((wrap64 ((ji6) - a3)) : Int).toNat).drop ((ji12) : Int).toNat).length = ((wrap64 ((ji6) - a3)).toNat - (ji12).toNat) from (by rw [List.length_drop, List.length_take]; have h_ : ((wrap64 ((ji6) - a3)) : Int) ≤ (l2.length : Int) := of_decide_eq_true az; omega)]; simp only [List.length_drop, List.length_take]; done) | (rw [show ((l2.take ((wrap64 ((ji6) - a3)) : Int).toNat).drop ((ji12) : Int).toNat).length = ((wrap64 ((ji6) - a3)).toNat - (ji12).toNat) from (by rw [List.length_drop, List.length_take]; have h_ : ((wrap64 ((ji6) - a3)) : Int) ≤ (l2.length : Int) := of_decide_eq_true az; omega)]; (simp only [List.length_drop, List.length_take]); rfl) | (simp only [List.length_drop, List.length_take]; done) | (simp only [List.length_drop, List.length_take]; rfl)); (with_reducible refine (bytes_Equal.calls _ _ ((l0.take ((wrap64 ((ji6) - a1)) : Int).toNat).drop ((ji8) : Int).toNat) _ _ ((l2.take ((wrap64 ((ji6) - a3)) : Int).toNat).drop ((ji12) : Int).toNat) t200 _ ?side1 ?side2 ?side3 ?side4 A16.out).mono ?_); (case side1 => repeat (first | exact HR198.out | (with_reducible refine Kd.C_alloc ?_ _) | (with_reducible refine Kd.C_drewN ?_ _) | (with_reducible refine Kd.C_drew ?_))); (case side2 => exact HC198.out); (case side3 => repeat (first | exact HR199.out | (with_reducible refine Kd.C_alloc ?_ _) | (with_reducible refine Kd.C_drewN ?_ _) | (with_reducible refine Kd.C_drew ?_))); (case side4 => exact HC199.out); rintro e w' ⟨rfl, ⟨nd, rfl⟩⟩; (try first | exact ⟨rfl, _, World.drewN_drewN _ _ _⟩ | exact ⟨rfl, _, Eq.trans (World.drewN_drewN _ _ _) (congrArg (World.drewN _) (Nat.add_assoc _ _ _))⟩))); try go_wp2_with (first | (go_at_call 55; refine calls_of_args (args' := #[.slice A17 ((l0.take ((wrap64 ((ji6) - a1)) : Int).toNat).drop ((ji8) : Int).toNat).length (c0 - (ji8).toNat), .slice A18 ((l2.take ((wrap64 ((ji6) - a3)) : Int).toNat).drop ((ji12) : Int).toNat).length (c2 - (ji12).toNat)]) ?hargs ?_; (case hargs => first | rfl | (rw [show ((l0.take ((wrap64 ((ji6) - a1)) : Int).toNat).drop ((ji8) : Int).toNat).length = ((wrap64 ((ji6) - a1)).toNat - (ji8).toNat) from (by rw [List.length_drop, List.length_take]; have h_ : ((wrap64 ((ji6) - a1)) : Int) ≤ (l0.length : Int) := of_decide_eq_true az; omega), show ((l2.take ((wrap64 ((ji6) - a3)) : Int).toNat).drop ((ji12) : Int).toNat).length = ((wrap64 ((ji6) - a3)).toNat - (ji12).toNat) from (by rw [List.length_drop, List.length_take]; have h_ : ((wrap64 ((ji6) - a3)) : Int) ≤ (l2.length : Int) := of_decide_eq_true az; omega)]; done) | (rw [show ((l0.take ((wrap64 ((ji6) - a1)) : Int).toNat).drop ((ji8) : Int).toNat).length = ((wrap64 ((ji6) - a1)).toNat - (ji8).toNat) from (by rw [List.length_drop, List.length_take]; have h_ : ((wrap64 ((ji6) - a1)) : Int) ≤ (l0.length : Int) := of_decide_eq_true az; omega), show ((l2.take ((wrap64 ((ji6) - a3)) : Int).toNat).drop ((ji12) : Int).toNat).length = ((wrap64 ((ji6) - a3)).toNat - (ji12).toNat) from (by rw [List.length_drop, List.length_take]; have h_ : ((wrap64 ((ji6) - a3)) : Int) ≤ (l2.length : Int) := of_decide_eq_true az; omega)]; rfl) | (rw [show ((l0.take ((wrap64 ((ji6) - a1)) : Int).toNat).drop ((ji8) : Int).toNat).length = ((wrap64 ((ji6) - a1)).toNat - (ji8).toNat) from (by rw [List.length_drop, List.length_take]; have h_ : ((wrap64 ((ji6) - a1)) : Int) ≤ (l0.length : Int) := of_decide_eq_true az; omega), show ((l2.take ((wrap64 ((ji6) - a3)) : Int).toNat).drop ((ji12) : Int).toNat).length = ((wrap64 ((ji6) - a3)).toNat - (ji12).toNat) from (by rw [List.length_drop, List.length_take]; have h_ : ((wrap64 ((ji6) - a3)) : Int) ≤ (l2.length : Int) := of_decide_eq_true az; omega)]; simp only [List.length_drop, List.length_take]; done) | (rw [show ((l0.take ((wrap64 ((ji6) - a1)) : Int).toNat).drop ((ji8) : Int).toNat).length = ((wrap64 ((ji6) - a1)).toNat - (ji8).toNat) from (by rw [List.length_drop, List.length_take]; have h_ : ((wrap64 ((ji6) - a1)) : Int) ≤ (l0.length : Int) := of_decide_eq_true az; omega), show ((l2.take ((wrap64 ((ji6) - a3)) : Int).toNat).drop ((ji12) : Int).toNat).length = ((wrap64 ((ji6) - a3)).toNat - (ji12).toNat) from (by rw [List.length_drop, List.length_take]; have h_ : ((wrap64 ((ji6) - a3)) : Int) ≤ (l2.length : Int) := of_decide_eq_true az; omega)]; (simp only [List.length_drop, List.length_take]); rfl) | (rw [show ((l0.take ((wrap64 ((ji6) - a1)) : Int).toNat).drop ((ji8) : Int).toNat).length = ((wrap64 ((ji6) - a1)).toNat - (ji8).toNat) from (by rw [List.length_drop, List.length_take]; have h_ : ((wrap64 ((ji6) - a1)) : Int) ≤ (l0.length : Int) := of_decide_eq_true az; omega)]; done) | (rw [show ((l0.take ((wrap64 ((ji6) - a1)) : Int).toNat).drop ((ji8) : Int).toNat).length = ((wrap64 ((ji6) - a1)).toNat - (ji8).toNat) from (by rw [List.length_drop, List.length_take]; have h_ : ((wrap64 ((ji6) - a1)) : Int) ≤ (l0.length : Int) := of_decide_eq_true az; omega)]; rfl) | (rw [show ((l0.take ((wrap64 ((ji6) - a1)) : Int).toNat).drop ((ji8) : Int).toNat).length = ((wrap64 ((ji6) - a1)).toNat - (ji8).toNat) from (by rw [List.length_drop, List.length_take]; have h_ : ((wrap64 ((ji6) - a1)) : Int) ≤ (l0.length : Int) := of_decide_eq_true az; omega)]; simp only [List.length_drop, List.length_take]; done) | (rw [show ((l0.take ((wrap64 ((ji6) - a1)) : Int).toNat).drop ((ji8) : Int).toNat).length = ((wrap64 ((ji6) - a1)).toNat - (ji8).toNat) from (by rw [List.length_drop, List.length_take]; have h_ : ((wrap64 ((ji6) - a1)) : Int) ≤ (l0.length : Int) := of_decide_eq_true az; omega)]; (simp only [List.length_drop, List.length_take]); rfl) | (rw [show ((l2.take ((wrap64 ((ji6) - a3)) : Int).toNat).drop ((ji12) : Int).toNat).length = ((wrap64 ((ji6) - a3)).toNat - (ji12).toNat) from (by rw [List.length_drop, List.length_take]; have h_ : ((wrap64 ((ji6) - a3)) : Int) ≤ (l2.length : Int) := of_decide_eq_true az; omega)]; done) | (rw [show ((l2.take ((wrap64 ((ji6) - a3)) : Int).toNat).drop ((ji12) : Int).toNat).length = ((wrap64 ((ji6) - a3)).toNat - (ji12).toNat) from (by rw [List.length_drop, List.length_take]; have h_ : ((wrap64 ((ji6) - a3)) : Int) ≤ (l2.length : Int) := of_decide_eq_true az; omega)]; rfl) | (rw [show ((l2.take ((wrap64 ((ji6) - a3)) : Int).toNat).drop ((ji12) : Int).toNat).length = ((wrap64 ((ji6) - a3)).toNat - (ji12).toNat) from (by rw [List.length_drop, List.length_take]; have h_ : ((wrap64 ((ji6) - a3)) : Int) ≤ (l2.length : Int) := of_decide_eq_true az; omega)]; simp only [List.length_drop, List.length_take]; done) | (rw [show ((l2.take ((wrap64 ((ji6) - a3)) : Int).toNat).drop ((ji12) : Int).toNat).length = ((wrap64 ((ji6) - a3)).toNat - (ji12).toNat) from (by rw [List.length_drop, List.length_take]; have h_ : ((wrap64 ((ji6) - a3)) : Int) ≤ (l2.length : Int) := of_decide_eq_true az; omega)]; (simp only [List.length_drop, List.length_take]); rfl) | (simp only [List.length_drop, List.length_take]; done) | (simp only [List.length_drop, List.length_take]; rfl)); (with_reducible refine (bytes_Equal.calls _ _ ((l0.take ((wrap64 ((ji6) - a1)) : Int).toNat).drop ((ji8) : Int).toNat) _ _ ((l2.take ((wrap64 ((ji6) - a3)) : Int).toNat).drop ((ji12) : Int).toNat) t200 _ ?side1 ?side2 ?side3 ?side4 A16.out).mono ?_); (case side1 => repeat (first | exact HR198.out | (with_reducible refine Kd.C_alloc ?_ _) | (with_reducible refine Kd.C_drewN ?_ _) | (with_reducible refine Kd.C_drew ?_))); (case side2 => exact HC198.out); (case side3 => repeat (first | exact HR199.out | (with_reducible refine Kd.C_alloc ?_ _) | (with_reducible refine Kd.C_drewN ?_ _) | (with_reducible refine Kd.C_drew ?_))); (case side4 => exact HC199.out); rintro e w' ⟨rfl, ⟨nd, rfl⟩⟩; (try first | exact ⟨rfl, _, World.drewN_drewN _ _ _⟩ | exact ⟨rfl, _, Eq.trans (World.drewN_drewN _ _ _) (congrArg (World.drewN _) (Nat.add_assoc _ _ _))⟩))))
  go_ret
  exact ⟨by first | rfl | (simp [errW_none, errW_some] <;> rfl) | (simp only [← hji5, ← hji6, ← hji8, ← hji12]; first | rfl | (simp [errW_none, errW_some] <;> rfl)) | (simp [*, errW_none, errW_some] <;> rfl), hz HB.out⟩

end Go.Proofs.Ytglpnbcockancaa.Q
