/- Made by wip/myprint.py of this session (it drives the kit's printer): what the calls of the Go functions come to, as plain Lean functions, and the row of a law over them; without conditions. -/
import Derived.Test.YtglpnbcockancaaQx0
import Derived.Test.YtglpnbcockancaaQx1
namespace Go.Proofs.Ytglpnbcockancaa.Q
open Go.RowKit Go.Proofs.YtglpnbcockancaaW.PrintWords Go.Proofs.YtglpnbcockancaaW.PrintLast Go.Proofs.YtglpnbcockancaaW.PrintMore
attribute [local go_sem] max2_int min2_int max_two min_two max_three min_three max_four min_four   -- for this text's walks alone
set_option linter.unusedVariables false
set_option linter.unusedSimpArgs false

/-! ### examboardref11_Add: function 58 -/
def examboardref11_Add.l0 : Nat → Int → List Int → Int → Option (Int)
 | 0, _, _, _ => none
 | k + 1, x0, x1, x5 => if x5 < (x1.length : Int) then (if 0 ≤ x5 then ((examboardref11_extend.f x0 (rd x1 x5)).bind fun t128 => (examboardref11_Add.l0 k t128 x1 (wrap64 (x5 + 1)))) else (none)) else (some x0)
def examboardref11_Add.f (k : Nat) (a0 : Int) (l1 : List Int) : Option (Int) := examboardref11_Add.l0 k a0 l1 0
theorem examboardref11_Add.mono_l : ∀ k, (∀ y0 y1 y2, LeO (examboardref11_Add.l0 k y0 y1 y2) (examboardref11_Add.l0 (k + 1) y0 y1 y2))
 | 0 => fun _ _ _ r h => by simp [examboardref11_Add.l0] at h
 | k + 1 => by
  have ih0 := examboardref11_Add.mono_l k
  ·
   intro y0 y1 y2
   unfold examboardref11_Add.l0
   repeat' first
   | (with_reducible exact ih0 _ _ _)
   | (with_reducible exact LeO.refl _)
   | (with_reducible exact LeO.none _)
   | (with_reducible refine LeO.ite ?_ ?_)
   | (with_reducible refine LeO.bind ?_ (fun _ => ?_))
   | exact ih0 _ _ _
   | exact LeO.none _
   | refine LeO.ite ?_ ?_
   | refine LeO.bind ?_ (fun _ => ?_)
theorem examboardref11_Add.mono : ∀ a0 a1 k, LeO (examboardref11_Add.f k a0 a1) (examboardref11_Add.f (k + 1) a0 a1) := by
 intro a0 a1 k
 have ih0 := examboardref11_Add.mono_l k
 unfold examboardref11_Add.f
 repeat' first
   | (with_reducible exact ih0 _ _ _)
   | (with_reducible exact LeO.refl _)
   | (with_reducible exact LeO.none _)
   | (with_reducible refine LeO.ite ?_ ?_)
   | (with_reducible refine LeO.bind ?_ (fun _ => ?_))
   | exact ih0 _ _ _
   | exact LeO.none _
   | refine LeO.ite ?_ ?_
   | refine LeO.bind ?_ (fun _ => ?_)
set_option maxHeartbeats 8000000 in
set_option maxRecDepth 100000 in
theorem examboardref11_Add.calls (k : Nat) (a0 : Int) (A1 : Option Addr) (c1 : Nat) (l1 : List Int) (r : Int) (w : World) (hr1 : Kd.C (Kd.int .u8) w A1 l1.length l1) (hc1 : l1.length ≤ c1) (h : examboardref11_Add.f k a0 l1 = some r) :
  Calls Try.prog 58 #[.int .u64 a0, .slice A1 l1.length c1] w fun e w' => e = .returned (.int .u64 r) ∧ Drawn0 w w' := by
 have HR1 := am hr1
 have HC1 := am hc1
 clear hr1 hc1
 have H : (examboardref11_Add.l0 k a0 l1 0) = some r := h
 clear h
 have H' := am H
 clear H
 go_enter Try.func58, Try.ntmps58
 go_wp2
 go_loopg [0, 5] k (fun kq v0 v5 w' => ∃ (x0_1 : Int) (x5_1 : Int), v0 = .int .u64 x0_1 ∧ v5 = .int .i64 x5_1 ∧ Aside0 (examboardref11_Add.l0 kq x0_1 l1 x5_1 = some r) ∧ Aside0 (kq ≤ k) ∧ Drawn0 w w')
 case atStart => exact ⟨(a0), (0), (by first | rfl | (simp; done) | (simp [*]; done)), (by first | rfl | (simp; done) | (simp [*]; done)), H', ⟨Nat.le_refl _⟩, by repeat (first | exact Drawn0.refl _ | apply Drawn0.step)⟩
 case round =>
  clear H'
  try clear c1
  try clear p2
  obtain ⟨x0_1, x5_1, rfl, rfl, HA, HK1, ⟨m1, rfl⟩⟩ := hrel
  cases gk with
  | zero => exact absurd HA.out (by simp [examboardref11_Add.l0])
  | succ k1 =>
   have H := HA.out
   clear HA
   simp only [examboardref11_Add.l0] at H
   by_cases c3 : x5_1 < (l1.length : Int)
   ·
    rw [if_pos c3] at H
    have c3b0 : decide (x5_1 < (l1.length : Int)) = true := decide_eq_true c3
    clear c3
    by_cases c4 : 0 ≤ x5_1
    ·
     rw [if_pos c4] at H
     have c4b0 : decide (0 ≤ x5_1) = true := decide_eq_true c4
     clear c4
     replace H := Option.bind_eq_some_iff.mp H
     obtain ⟨t128, A50, H⟩ := H
     replace H : (examboardref11_Add.l0 k1 t128 l1 (wrap64 (x5_1 + 1))) = some r := H
     have A5 := am A50
     clear A50
     have H' := am H
     clear H
     have p127 : 0 ≤ (x5_1 : Int) := of_decide_eq_true az
     have q127 : x5_1 < (l1.length : Int) := of_decide_eq_true az
     obtain ⟨ad127, e127, hx127_0⟩ := Kd.at_int HR1.out x5_1 p127 q127
     cases e127
     replace p127 := eq_true p127
     replace q127 := eq_true q127
     go_wp2_with (first | ((with_reducible refine gate_callee (f := 57) rfl ?_); refine goesL_ (some 17) rfl rfl Try.func57 (by kernel_rfl) rfl #[.int .u64 x0_1, .int .u8 (rd l1 x5_1)] rfl lz ?_; (with_reducible refine (examboardref11_extend.calls x0_1 (rd l1 x5_1) t128 _ A5.out).mono ?_); rintro e w' ⟨rfl, ⟨nd, rfl⟩⟩; refine ⟨_, rfl, ?_⟩))
     go_roundg k1
     case measure => have := HK1.out; omega
     case rel => exact ⟨(t128), (wrap64 (x5_1 + 1)), (by first | rfl | (simp; done) | (simp [*]; done)), (by first | rfl | (simp; done) | (simp [*]; done)), H', ⟨by have := HK1.out; omega⟩, by repeat (first | exact Drawn0.refl _ | apply Drawn0.step)⟩
    ·
     rw [if_neg c4] at H
     exact absurd H (by simp)
   ·
    rw [if_neg c3] at H
    have c3b0 : decide (x5_1 < (l1.length : Int)) = false := decide_eq_false c3
    clear c3
    obtain rfl := Option.some.inj H
    go_wp2
    go_ret
    exact ⟨by first | rfl | (simp; done) | (simp [*]; done), by repeat (first | exact Drawn0.refl _ | apply Drawn0.step)⟩

/-! ### examboardref11_Of: function 50 -/
def examboardref11_Of.f (k : Nat) (l0 : List Int) : Option (Int) := (examboardref11_Add.f k 14695981039346656037 l0).bind fun t129 => (some t129)
theorem examboardref11_Of.mono : ∀ a0 k, LeO (examboardref11_Of.f k a0) (examboardref11_Of.f (k + 1) a0) := by
 intro a0 k
 unfold examboardref11_Of.f
 repeat' first
   | (with_reducible exact examboardref11_Add.mono _ _ _)
   | (with_reducible exact LeO.refl _)
   | (with_reducible exact LeO.none _)
   | (with_reducible refine LeO.ite ?_ ?_)
   | (with_reducible refine LeO.bind ?_ (fun _ => ?_))
   | exact examboardref11_Add.mono _ _ _
   | exact LeO.none _
   | refine LeO.ite ?_ ?_
   | refine LeO.bind ?_ (fun _ => ?_)
set_option maxHeartbeats 8000000 in
set_option maxRecDepth 100000 in
theorem examboardref11_Of.calls (k : Nat) (A0 : Option Addr) (c0 : Nat) (l0 : List Int) (r : Int) (w : World) (hr0 : Kd.C (Kd.int .u8) w A0 l0.length l0) (hc0 : l0.length ≤ c0) (h : examboardref11_Of.f k l0 = some r) :
  Calls Try.prog 50 #[.slice A0 l0.length c0] w fun e w' => e = .returned (.int .u64 r) ∧ Drawn0 w w' := by
 have HR0 := am hr0
 have HC0 := am hc0
 clear hr0 hc0
 have H : ((examboardref11_Add.f k 14695981039346656037 l0).bind fun t129 => (some t129)) = some r := h
 clear h
 replace H := Option.bind_eq_some_iff.mp H
 obtain ⟨t129, A20, H⟩ := H
 replace H : (some t129) = some r := H
 have A2 := am A20
 clear A20
 obtain rfl := Option.some.inj H
 go_enter Try.func50, Try.ntmps50
 go_wp2_with (first | ((with_reducible refine gate_callee (f := 58) rfl ?_); refine goesL_ (some 4) rfl rfl Try.func58 (by kernel_rfl) rfl #[.int .u64 14695981039346656037, .slice A0 l0.length c0] rfl lz ?_; (with_reducible refine (examboardref11_Add.calls k 14695981039346656037 _ _ l0 t129 _ ?side1 ?side2 A2.out).mono ?_); (case side1 => repeat (first | exact HR0.out | (with_reducible refine Kd.C_alloc ?_ _) | (with_reducible refine Kd.C_drewN ?_ _) | (with_reducible refine Kd.C_drew ?_))); (case side2 => exact HC0.out); rintro e w' ⟨rfl, ⟨nd, rfl⟩⟩; refine ⟨_, rfl, ?_⟩))
 go_ret
 exact ⟨by first | rfl | (simp; done) | (simp [*]; done), by repeat (first | exact Drawn0.refl _ | apply Drawn0.step)⟩

/-! ### examboardref11_Chain: function 51 -/
def examboardref11_Chain.f (k : Nat) (a0 : Int) (l1 : List Int) : Option (Int) := (examboardref11_Number.f k 14695981039346656037 a0).bind fun t130 => ((examboardref11_Add.f k t130 l1).bind fun t131 => (some t131))
theorem examboardref11_Chain.mono : ∀ a0 a1 k, LeO (examboardref11_Chain.f k a0 a1) (examboardref11_Chain.f (k + 1) a0 a1) := by
 intro a0 a1 k
 unfold examboardref11_Chain.f
 repeat' first
   | (with_reducible exact examboardref11_Add.mono _ _ _)
   | (with_reducible exact examboardref11_Number.mono _ _ _)
   | (with_reducible exact LeO.refl _)
   | (with_reducible exact LeO.none _)
   | (with_reducible refine LeO.ite ?_ ?_)
   | (with_reducible refine LeO.bind ?_ (fun _ => ?_))
   | exact examboardref11_Add.mono _ _ _
   | exact examboardref11_Number.mono _ _ _
   | exact LeO.none _
   | refine LeO.ite ?_ ?_
   | refine LeO.bind ?_ (fun _ => ?_)
set_option maxHeartbeats 8000000 in
set_option maxRecDepth 100000 in
theorem examboardref11_Chain.calls (k : Nat) (a0 : Int) (A1 : Option Addr) (c1 : Nat) (l1 : List Int) (r : Int) (w : World) (hr1 : Kd.C (Kd.int .u8) w A1 l1.length l1) (hc1 : l1.length ≤ c1) (h : examboardref11_Chain.f k a0 l1 = some r) :
  Calls Try.prog 51 #[.int .u64 a0, .slice A1 l1.length c1] w fun e w' => e = .returned (.int .u64 r) ∧ Drawn0 w w' := by
 have HR1 := am hr1
 have HC1 := am hc1
 clear hr1 hc1
 have H : ((examboardref11_Number.f k 14695981039346656037 a0).bind fun t130 => ((examboardref11_Add.f k t130 l1).bind fun t131 => (some t131))) = some r := h
 clear h
 replace H := Option.bind_eq_some_iff.mp H
 obtain ⟨t130, A30, H⟩ := H
 replace H : ((examboardref11_Add.f k t130 l1).bind fun t131 => (some t131)) = some r := H
 have A3 := am A30
 clear A30
 replace H := Option.bind_eq_some_iff.mp H
 obtain ⟨t131, A40, H⟩ := H
 replace H : (some t131) = some r := H
 have A4 := am A40
 clear A40
 obtain rfl := Option.some.inj H
 go_enter Try.func51, Try.ntmps51
 go_wp2_with (first | ((with_reducible refine gate_callee (f := 49) rfl ?_); refine goesL_ (some 6) rfl rfl Try.func49 (by kernel_rfl) rfl #[.int .u64 14695981039346656037, .int .u64 a0] rfl lz ?_; (with_reducible refine (examboardref11_Number.calls k 14695981039346656037 a0 t130 _ A3.out).mono ?_); rintro e w' ⟨rfl, ⟨nd, rfl⟩⟩; refine ⟨_, rfl, ?_⟩) | ((with_reducible refine gate_callee (f := 58) rfl ?_); refine goesL_ (some 8) rfl rfl Try.func58 (by kernel_rfl) rfl #[.int .u64 t130, .slice A1 l1.length c1] rfl lz ?_; (with_reducible refine (examboardref11_Add.calls k t130 _ _ l1 t131 _ ?side1 ?side2 A4.out).mono ?_); (case side1 => repeat (first | exact HR1.out | (with_reducible refine Kd.C_alloc ?_ _) | (with_reducible refine Kd.C_drewN ?_ _) | (with_reducible refine Kd.C_drew ?_))); (case side2 => exact HC1.out); rintro e w' ⟨rfl, ⟨nd, rfl⟩⟩; refine ⟨_, rfl, ?_⟩))
 go_ret
 exact ⟨by first | rfl | (simp; done) | (simp [*]; done), by repeat (first | exact Drawn0.refl _ | apply Drawn0.step)⟩

/-! ### examboardref53_sum: function 31 -/
def examboardref53_sum.f (k : Nat) (a0 : Int) (a1 : Int) (l2 : List Int) : Option (Int) := (examboardref11_Of.f k ([] : List Int)).bind fun t132 => ((examboardref11_Number.f k t132 (IntKind.u64.wrap (a0))).bind fun t133 => ((examboardref11_Number.f k t133 (IntKind.u64.wrap (a1))).bind fun t134 => ((examboardref11_Chain.f k t134 l2).bind fun t135 => (some t135))))
theorem examboardref53_sum.mono : ∀ a0 a1 a2 k, LeO (examboardref53_sum.f k a0 a1 a2) (examboardref53_sum.f (k + 1) a0 a1 a2) := by
 intro a0 a1 a2 k
 unfold examboardref53_sum.f
 repeat' first
   | (with_reducible exact examboardref11_Chain.mono _ _ _)
   | (with_reducible exact examboardref11_Number.mono _ _ _)
   | (with_reducible exact examboardref11_Of.mono _ _)
   | (with_reducible exact LeO.refl _)
   | (with_reducible exact LeO.none _)
   | (with_reducible refine LeO.ite ?_ ?_)
   | (with_reducible refine LeO.bind ?_ (fun _ => ?_))
   | exact examboardref11_Chain.mono _ _ _
   | exact examboardref11_Number.mono _ _ _
   | exact examboardref11_Of.mono _ _
   | exact LeO.none _
   | refine LeO.ite ?_ ?_
   | refine LeO.bind ?_ (fun _ => ?_)
set_option maxHeartbeats 8000000 in
set_option maxRecDepth 100000 in
theorem examboardref53_sum.calls (k : Nat) (a0 : Int) (a1 : Int) (A2 : Option Addr) (c2 : Nat) (l2 : List Int) (r : Int) (w : World) (hr2 : Kd.C (Kd.int .u8) w A2 l2.length l2) (hc2 : l2.length ≤ c2) (h : examboardref53_sum.f k a0 a1 l2 = some r) :
  Calls Try.prog 31 #[.int .i64 a0, .int .i64 a1, .slice A2 l2.length c2] w fun e w' => e = .returned (.int .u64 r) ∧ Drawn0 w w' := by
 have HR2 := am hr2
 have HC2 := am hc2
 clear hr2 hc2
 have H : ((examboardref11_Of.f k ([] : List Int)).bind fun t132 => ((examboardref11_Number.f k t132 (IntKind.u64.wrap (a0))).bind fun t133 => ((examboardref11_Number.f k t133 (IntKind.u64.wrap (a1))).bind fun t134 => ((examboardref11_Chain.f k t134 l2).bind fun t135 => (some t135))))) = some r := h
 clear h
 replace H := Option.bind_eq_some_iff.mp H
 obtain ⟨t132, A40, H⟩ := H
 replace H : ((examboardref11_Number.f k t132 (IntKind.u64.wrap (a0))).bind fun t133 => ((examboardref11_Number.f k t133 (IntKind.u64.wrap (a1))).bind fun t134 => ((examboardref11_Chain.f k t134 l2).bind fun t135 => (some t135)))) = some r := H
 have A4 := am A40
 clear A40
 replace H := Option.bind_eq_some_iff.mp H
 obtain ⟨t133, A50, H⟩ := H
 replace H : ((examboardref11_Number.f k t133 (IntKind.u64.wrap (a1))).bind fun t134 => ((examboardref11_Chain.f k t134 l2).bind fun t135 => (some t135))) = some r := H
 have A5 := am A50
 clear A50
 replace H := Option.bind_eq_some_iff.mp H
 obtain ⟨t134, A60, H⟩ := H
 replace H : ((examboardref11_Chain.f k t134 l2).bind fun t135 => (some t135)) = some r := H
 have A6 := am A60
 clear A60
 replace H := Option.bind_eq_some_iff.mp H
 obtain ⟨t135, A70, H⟩ := H
 replace H : (some t135) = some r := H
 have A7 := am A70
 clear A70
 obtain rfl := Option.some.inj H
 go_enter Try.func31, Try.ntmps31
 go_wp2_with (first | ((with_reducible refine gate_callee (f := 50) rfl ?_); refine goesL_ (some 8) rfl rfl Try.func50 (by kernel_rfl) rfl #[.slice none 0 0] rfl lz ?_; (refine (examboardref11_Of.calls k _ _ ([] : List Int) t132 _ ?side1 ?side2 A4.out).mono ?_); (case side1 => exact Kd.C_nil _ _); (case side2 => exact Nat.le_refl _); rintro e w' ⟨rfl, ⟨nd, rfl⟩⟩; refine ⟨_, rfl, ?_⟩) | ((with_reducible refine gate_callee (f := 49) rfl ?_); refine goesL_ (some 11) rfl rfl Try.func49 (by kernel_rfl) rfl #[.int .u64 t132, .int .u64 (IntKind.u64.wrap (a0))] rfl lz ?_; (with_reducible refine (examboardref11_Number.calls k t132 (IntKind.u64.wrap (a0)) t133 _ A5.out).mono ?_); rintro e w' ⟨rfl, ⟨nd, rfl⟩⟩; refine ⟨_, rfl, ?_⟩) | ((with_reducible refine gate_callee (f := 49) rfl ?_); refine goesL_ (some 14) rfl rfl Try.func49 (by kernel_rfl) rfl #[.int .u64 t133, .int .u64 (IntKind.u64.wrap (a1))] rfl lz ?_; (with_reducible refine (examboardref11_Number.calls k t133 (IntKind.u64.wrap (a1)) t134 _ A6.out).mono ?_); rintro e w' ⟨rfl, ⟨nd, rfl⟩⟩; refine ⟨_, rfl, ?_⟩) | ((with_reducible refine gate_callee (f := 51) rfl ?_); refine goesL_ (some 17) rfl rfl Try.func51 (by kernel_rfl) rfl #[.int .u64 t134, .slice A2 l2.length c2] rfl lz ?_; (with_reducible refine (examboardref11_Chain.calls k t134 _ _ l2 t135 _ ?side1 ?side2 A7.out).mono ?_); (case side1 => repeat (first | exact HR2.out | (with_reducible refine Kd.C_alloc ?_ _) | (with_reducible refine Kd.C_drewN ?_ _) | (with_reducible refine Kd.C_drew ?_))); (case side2 => exact HC2.out); rintro e w' ⟨rfl, ⟨nd, rfl⟩⟩; refine ⟨_, rfl, ?_⟩))
 go_ret
 exact ⟨by first | rfl | (simp; done) | (simp [*]; done), by repeat (first | exact Drawn0.refl _ | apply Drawn0.step)⟩

/-! ### examboardref53_Packet: function 10 -/
def examboardref53_Packet.f (k : Nat) (a0 : Int) (a1 : Int) (l2 : List Int) : Option (Int × Int × List Int × Int × Int) := (examboardref53_ranged.f a0 a1 (l2.length : Int)).bind fun t137 => (if t137 = true then ((examboardref53_copied.f k l2).bind fun t138 => ((examboardref53_sum.f k a0 a1 l2).bind fun t141 => (some (a0, a1, t138, t141, 0)))) else (some (0, 0, ([] : List Int), 0, 3)))
theorem examboardref53_Packet.mono : ∀ a0 a1 a2 k, LeO (examboardref53_Packet.f k a0 a1 a2) (examboardref53_Packet.f (k + 1) a0 a1 a2) := by
 intro a0 a1 a2 k
 unfold examboardref53_Packet.f
 repeat' first
   | (with_reducible exact examboardref53_copied.mono _ _)
   | (with_reducible exact examboardref53_sum.mono _ _ _ _)
   | (with_reducible exact LeO.refl _)
   | (with_reducible exact LeO.none _)
   | (with_reducible refine LeO.ite ?_ ?_)
   | (with_reducible refine LeO.bind ?_ (fun _ => ?_))
   | exact examboardref53_copied.mono _ _
   | exact examboardref53_sum.mono _ _ _ _
   | exact LeO.none _
   | refine LeO.ite ?_ ?_
   | refine LeO.bind ?_ (fun _ => ?_)
set_option maxHeartbeats 8000000 in
set_option maxRecDepth 100000 in
theorem examboardref53_Packet.calls (k : Nat) (a0 : Int) (a1 : Int) (A2 : Option Addr) (c2 : Nat) (l2 : List Int) (r1 : Int) (r2 : Int) (r3 : List Int) (r4 : Int) (r5 : Int) (w : World) (hr2 : Kd.C (Kd.int .u8) w A2 l2.length l2) (hc2 : l2.length ≤ c2) (h : examboardref53_Packet.f k a0 a1 l2 = some (r1, r2, r3, r4, r5)) :
  Calls Try.prog 10 #[.int .i64 a0, .int .i64 a1, .slice A2 l2.length c2] w fun e w' => ∃ v2_ : Value, e = .returned (.tuple #[.agg #[.int .i64 r1, .int .i64 r2, v2_, .int .u64 r4], .int .i64 r5]) ∧ Kd.R (Kd.int .u8) 5 w' w.heap.size (fun _ => True) v2_ r3 ∧ Below w.heap.size w w' := by
 have hu25 := Try.underlying25
 have HR2 := am hr2
 have HC2 := am hc2
 clear hr2 hc2
 have HB := am (Below.refl w.heap.size w)
 have H : ((examboardref53_ranged.f a0 a1 (l2.length : Int)).bind fun t137 => (if t137 = true then ((examboardref53_copied.f k l2).bind fun t138 => ((examboardref53_sum.f k a0 a1 l2).bind fun t141 => (some (a0, a1, t138, t141, 0)))) else (some (0, 0, ([] : List Int), 0, 3)))) = some (r1, r2, r3, r4, r5) := h
 clear h
 replace H := Option.bind_eq_some_iff.mp H
 obtain ⟨t137, A40, H⟩ := H
 replace H : (if t137 = true then ((examboardref53_copied.f k l2).bind fun t138 => ((examboardref53_sum.f k a0 a1 l2).bind fun t141 => (some (a0, a1, t138, t141, 0)))) else (some (0, 0, ([] : List Int), 0, 3))) = some (r1, r2, r3, r4, r5) := H
 have A4 := am A40
 clear A40
 by_cases c5 : t137 = true
 ·
  subst c5
  have H1 : ((examboardref53_copied.f k l2).bind fun t138 => ((examboardref53_sum.f k a0 a1 l2).bind fun t141 => (some (a0, a1, t138, t141, 0)))) = some (r1, r2, r3, r4, r5) := by rw [if_pos rfl] at H; exact H
  clear H
  have H := H1
  clear H1
  replace H := Option.bind_eq_some_iff.mp H
  obtain ⟨t138, A60, H⟩ := H
  replace H : ((examboardref53_sum.f k a0 a1 l2).bind fun t141 => (some (a0, a1, t138, t141, 0))) = some (r1, r2, r3, r4, r5) := H
  have A6 := am A60
  clear A60
  replace H := Option.bind_eq_some_iff.mp H
  obtain ⟨t141, A70, H⟩ := H
  replace H : (some (a0, a1, t138, t141, 0)) = some (r1, r2, r3, r4, r5) := H
  have A7 := am A70
  clear A70
  simp only [Option.some.injEq, Prod.mk.injEq] at H
  obtain ⟨rfl, rfl, rfl, rfl, rfl⟩ := H
  go_enter Try.func10, Try.ntmps10
  go_wp2_with (first | ((with_reducible refine gate_dst (N := 6) rfl ?_); refine box_event ?hg (N := 6) ?hd (cs := #[.int .i64 0, .int .i64 0, .slice none 0 0, .int .u64 0]) (t := 25) ?hr ?_; (case hd => rfl); (case hg => rfl); (case hr => exact gz); intro gb136 hg w8 hbox hb; have n0_ := am (below_step (hz HB.out) hb); have n1_ := am (hbox); have n2_ := am ((bs hg (hz HB.out) : w.heap.size ≤ gb136)); have n3_ := am ((bs hg (hz HB.out) : w.heap.size ≤ gb136)); clear HB; have HB := n0_; have BK136 := n1_; have GW136 := n2_; have GE136 := n3_; clear n0_ n1_ n2_ n3_; clear hb hbox hg) | ((with_reducible refine gate_callee (f := 29) rfl ?_); refine goesL_ (some 12) rfl rfl Try.func29 (by kernel_rfl) rfl #[.int .i64 a0, .int .i64 a1, .int .i64 (l2.length : Int)] rfl lz ?_; (with_reducible refine (examboardref53_ranged.calls a0 a1 (l2.length : Int) true _ A4.out).mono ?_); rintro e w' ⟨rfl, ⟨nd, rfl⟩⟩; refine ⟨_, rfl, ?_⟩; (try (rw [drewN_self w8]; generalize hq_ : World.drewN w8 _ = w8; have n0_ : Aside0 (w8.heap[gb136]? = some (.cells #[.int .i64 0, .int .i64 0, .slice none 0 0, .int .u64 0] 25 (0, 0))) := ⟨by rw [← hq_]; exact (bz BK136.out)⟩; have n1_ : Aside0 (Below w.heap.size w w8) := ⟨by rw [← hq_]; exact (hz1 HB.out GE136.out)⟩; clear BK136 HB hq_; have BK136 := n0_; have HB := n1_; clear n0_ n1_))) | ((with_reducible refine gate_callee (f := 30) rfl ?_); refine goesL_ (some 18) rfl rfl Try.func30 (by kernel_rfl) rfl #[.slice A2 l2.length c2] rfl lz ?_; (with_reducible refine (examboardref53_copied.calls k _ _ l2 t138 _ ?side1 ?side2 A6.out).mono ?_); (case side1 => exact cz (Kd.C_below HR2.out HB.out)); (case side2 => exact HC2.out); rintro e w9 ⟨v139, rfl, ho0, hb⟩; refine ⟨_, rfl, ?_⟩; have n0_ := am (Kd.R_lower ho0 (below_size (hz1 HB.out GE136.out))); have n1_ := am (blk_below (bz BK136.out) hb); have n2_ := am (below_step (hz1 HB.out GE136.out) hb); clear BK136; clear HB; have HO140 := n0_; have BK136 := n1_; have HB := n2_; clear n0_ n1_ n2_; (try clear hb); (try clear hb2); (try clear hk); (try clear hi); (try clear ho0)) | ((with_reducible refine gate_callee (f := 31) rfl ?_); refine goesL_ (some 22) rfl rfl Try.func31 (by kernel_rfl) rfl #[.int .i64 a0, .int .i64 a1, .slice A2 l2.length c2] rfl lz ?_; (with_reducible refine (examboardref53_sum.calls k a0 a1 _ _ l2 t141 _ ?side1 ?side2 A7.out).mono ?_); (case side1 => exact cz (Kd.C_below HR2.out HB.out)); (case side2 => exact HC2.out); rintro e w' ⟨rfl, ⟨nd, rfl⟩⟩; refine ⟨_, rfl, ?_⟩; (try (rw [drewN_self w9]; generalize hq_ : World.drewN w9 _ = w9; have n0_ : Aside0 (Kd.R (Kd.int .u8) 5 w9 w.heap.size (fun _ => True) v139 t138) := ⟨by rw [← hq_]; exact (rz HO140.out)⟩; have n1_ : Aside0 (w9.heap[gb136]? = some (.cells #[.int .i64 0, .int .i64 0, .slice none 0 0, .int .u64 0] 25 (0, 0))) := ⟨by rw [← hq_]; exact (bz BK136.out)⟩; have n2_ : Aside0 (Below w.heap.size w w9) := ⟨by rw [← hq_]; exact (hz1 HB.out GE136.out)⟩; clear HO140 BK136 HB hq_; have HO140 := n0_; have BK136 := n1_; have HB := n2_; clear n0_ n1_ n2_)); obtain ⟨Ao10, co10, eo10⟩ := Kd.R_slice HO140.out; subst eo10; obtain ⟨hcz11_0, hcz11_1, hcz11_2, hcz11_3⟩ := cs4 BK136.out; obtain ⟨hfz11_0, hfz11_1, hfz11_2, hfz11_3⟩ := fs4 BK136.out))
  refine bodyPost_ret (results_ct rfl _ _ gb136 25 #[.int .i64 a0, .int .i64 a1, .slice Ao10 t138.length co10, .int .u64 t141] (0, 0) _ rfl (by (with_reducible repeat (first | refine blk_drewN ?_ _ | refine blk_drew ?_ | refine blk_alloc ?_ _)); refine blk_put (cs := #[.int .i64 a0, .int .i64 a1, .slice Ao10 t138.length co10, .int .u64 0]) ?_ 3 _ rfl; (with_reducible repeat (first | refine blk_drewN ?_ _ | refine blk_drew ?_ | refine blk_alloc ?_ _)); refine blk_put (cs := #[.int .i64 a0, .int .i64 a1, .slice none 0 0, .int .u64 0]) ?_ 2 _ rfl; (with_reducible repeat (first | refine blk_drewN ?_ _ | refine blk_drew ?_ | refine blk_alloc ?_ _)); refine blk_put (cs := #[.int .i64 a0, .int .i64 0, .slice none 0 0, .int .u64 0]) ?_ 1 _ rfl; (with_reducible repeat (first | refine blk_drewN ?_ _ | refine blk_drew ?_ | refine blk_alloc ?_ _)); refine blk_put (cs := #[.int .i64 0, .int .i64 0, .slice none 0 0, .int .u64 0]) ?_ 0 _ rfl; (with_reducible repeat (first | refine blk_drewN ?_ _ | refine blk_drew ?_ | refine blk_alloc ?_ _)); exact BK136.out) Try.underlying25 rfl (by kernel_rfl)) rfl ?_
  exact ⟨_, by first | rfl | (simp [errW_none, errW_some] <;> rfl) | (simp [*, errW_none, errW_some] <;> rfl), by (with_reducible repeat (first | apply Kd.R_alloc | apply Kd.R_drewN | apply Kd.R_drew)); exact Kd.R_mono (rfg4 HO140.out BK136.out) (fun _ hk => trivial), hz1 HB.out GE136.out⟩
 ·
  replace c5 := Bool.eq_false_iff.mpr c5
  subst c5
  have H1 : (some (0, 0, ([] : List Int), 0, 3)) = some (r1, r2, r3, r4, r5) := by rw [if_neg (show ¬ (false = true) by decide)] at H; exact H
  clear H
  have H := H1
  clear H1
  simp only [Option.some.injEq, Prod.mk.injEq] at H
  obtain ⟨rfl, rfl, rfl, rfl, rfl⟩ := H
  go_enter Try.func10, Try.ntmps10
  go_wp2_with (first | ((with_reducible refine gate_dst (N := 6) rfl ?_); refine box_event ?hg (N := 6) ?hd (cs := #[.int .i64 0, .int .i64 0, .slice none 0 0, .int .u64 0]) (t := 25) ?hr ?_; (case hd => rfl); (case hg => rfl); (case hr => exact gz); intro gb136 hg w12 hbox hb; have n0_ := am (below_step (hz HB.out) hb); have n1_ := am (hbox); have n2_ := am ((bs hg (hz HB.out) : w.heap.size ≤ gb136)); have n3_ := am ((bs hg (hz HB.out) : w.heap.size ≤ gb136)); clear HB; have HB := n0_; have BK136 := n1_; have GW136 := n2_; have GE136 := n3_; clear n0_ n1_ n2_ n3_; clear hb hbox hg) | ((with_reducible refine gate_callee (f := 29) rfl ?_); refine goesL_ (some 12) rfl rfl Try.func29 (by kernel_rfl) rfl #[.int .i64 a0, .int .i64 a1, .int .i64 (l2.length : Int)] rfl lz ?_; (with_reducible refine (examboardref53_ranged.calls a0 a1 (l2.length : Int) false _ A4.out).mono ?_); rintro e w' ⟨rfl, ⟨nd, rfl⟩⟩; refine ⟨_, rfl, ?_⟩; (try (rw [drewN_self w12]; generalize hq_ : World.drewN w12 _ = w12; have n0_ : Aside0 (w12.heap[gb136]? = some (.cells #[.int .i64 0, .int .i64 0, .slice none 0 0, .int .u64 0] 25 (0, 0))) := ⟨by rw [← hq_]; exact (bz BK136.out)⟩; have n1_ : Aside0 (Below w.heap.size w w12) := ⟨by rw [← hq_]; exact (hz1 HB.out GE136.out)⟩; clear BK136 HB hq_; have BK136 := n0_; have HB := n1_; clear n0_ n1_)); obtain ⟨hcz13_0, hcz13_1, hcz13_2, hcz13_3⟩ := cs4 BK136.out; obtain ⟨hfz13_0, hfz13_1, hfz13_2, hfz13_3⟩ := fs4 BK136.out))
  refine bodyPost_ret (results_ct rfl _ _ gb136 25 #[.int .i64 0, .int .i64 0, .slice none 0 0, .int .u64 0] (0, 0) _ rfl (by (with_reducible repeat (first | refine blk_drewN ?_ _ | refine blk_drew ?_ | refine blk_alloc ?_ _)); refine blk_put (cs := #[.int .i64 0, .int .i64 0, .slice none 0 0, .int .u64 0]) ?_ 3 _ rfl; (with_reducible repeat (first | refine blk_drewN ?_ _ | refine blk_drew ?_ | refine blk_alloc ?_ _)); refine blk_put (cs := #[.int .i64 0, .int .i64 0, .slice none 0 0, .int .u64 0]) ?_ 2 _ rfl; (with_reducible repeat (first | refine blk_drewN ?_ _ | refine blk_drew ?_ | refine blk_alloc ?_ _)); refine blk_put (cs := #[.int .i64 0, .int .i64 0, .slice none 0 0, .int .u64 0]) ?_ 1 _ rfl; (with_reducible repeat (first | refine blk_drewN ?_ _ | refine blk_drew ?_ | refine blk_alloc ?_ _)); refine blk_put (cs := #[.int .i64 0, .int .i64 0, .slice none 0 0, .int .u64 0]) ?_ 0 _ rfl; (with_reducible repeat (first | refine blk_drewN ?_ _ | refine blk_drew ?_ | refine blk_alloc ?_ _)); exact BK136.out) Try.underlying25 rfl (by kernel_rfl)) rfl ?_
  exact ⟨_, by first | rfl | (simp [errW_none, errW_some] <;> rfl) | (simp [*, errW_none, errW_some] <;> rfl), by first | exact Kd.R_nil _ _ _ _ _ | exact Kd.N_nil _ _ _ _ _ | exact Kd.V_nil _ _ _ _ _ | exact Kd.Q_nil _ _ _ _ _ | exact Kd.S_nil _ _ _ _ _, hz1 HB.out GE136.out⟩

/-! ### examboardlaw53_equal: function 22 -/
def examboardlaw53_equal.l0 : Nat → List Int → List Int → Int → Int → Option (Bool)
 | 0, _, _, _, _ => none
 | k + 1, x0, x1, x12, x13 => if x13 < x12 then (if 0 ≤ x13 then (if x13 < (x0.length : Int) then (if x13 < (x1.length : Int) then (if (rd x0 x13) = (rd x1 x13) then (examboardlaw53_equal.l0 k x0 x1 x12 (wrap64 (x13 + 1))) else (some false)) else (none)) else (none)) else (none)) else (some true)
def examboardlaw53_equal.f (k : Nat) (l0 : List Int) (l1 : List Int) : Option (Bool) := if (l0.length : Int) = (l1.length : Int) then (examboardlaw53_equal.l0 k l0 l1 (l0.length : Int) 0) else (some false)
theorem examboardlaw53_equal.mono_l : ∀ k, (∀ y0 y1 y2 y3, LeO (examboardlaw53_equal.l0 k y0 y1 y2 y3) (examboardlaw53_equal.l0 (k + 1) y0 y1 y2 y3))
 | 0 => fun _ _ _ _ r h => by simp [examboardlaw53_equal.l0] at h
 | k + 1 => by
  have ih0 := examboardlaw53_equal.mono_l k
  ·
   intro y0 y1 y2 y3
   unfold examboardlaw53_equal.l0
   repeat' first
   | (with_reducible exact ih0 _ _ _ _)
   | (with_reducible exact LeO.refl _)
   | (with_reducible exact LeO.none _)
   | (with_reducible refine LeO.ite ?_ ?_)
   | (with_reducible refine LeO.bind ?_ (fun _ => ?_))
   | exact ih0 _ _ _ _
   | exact LeO.none _
   | refine LeO.ite ?_ ?_
   | refine LeO.bind ?_ (fun _ => ?_)
theorem examboardlaw53_equal.mono : ∀ a0 a1 k, LeO (examboardlaw53_equal.f k a0 a1) (examboardlaw53_equal.f (k + 1) a0 a1) := by
 intro a0 a1 k
 have ih0 := examboardlaw53_equal.mono_l k
 unfold examboardlaw53_equal.f
 repeat' first
   | (with_reducible exact ih0 _ _ _ _)
   | (with_reducible exact LeO.refl _)
   | (with_reducible exact LeO.none _)
   | (with_reducible refine LeO.ite ?_ ?_)
   | (with_reducible refine LeO.bind ?_ (fun _ => ?_))
   | exact ih0 _ _ _ _
   | exact LeO.none _
   | refine LeO.ite ?_ ?_
   | refine LeO.bind ?_ (fun _ => ?_)
set_option maxHeartbeats 8000000 in
set_option maxRecDepth 100000 in
theorem examboardlaw53_equal.calls (k : Nat) (A0 : Option Addr) (c0 : Nat) (l0 : List Int) (A1 : Option Addr) (c1 : Nat) (l1 : List Int) (r : Bool) (w : World) (hr0 : Kd.C (Kd.int .u8) w A0 l0.length l0) (hc0 : l0.length ≤ c0) (hr1 : Kd.C (Kd.int .u8) w A1 l1.length l1) (hc1 : l1.length ≤ c1) (h : examboardlaw53_equal.f k l0 l1 = some r) :
  Calls Try.prog 22 #[.slice A0 l0.length c0, .slice A1 l1.length c1] w fun e w' => e = .returned (.bool r) ∧ Drawn0 w w' := by
 have HR0 := am hr0
 have HC0 := am hc0
 clear hr0 hc0
 have HR1 := am hr1
 have HC1 := am hc1
 clear hr1 hc1
 have H : (if (l0.length : Int) = (l1.length : Int) then (examboardlaw53_equal.l0 k l0 l1 (l0.length : Int) 0) else (some false)) = some r := h
 clear h
 by_cases c3 : (l0.length : Int) = (l1.length : Int)
 ·
  rw [if_pos c3] at H
  have c3b0 : ((l0.length : Int) == (l1.length : Int)) = true := beq_iff_eq.mpr c3
  have c3b1 : ((l0.length : Int) != (l1.length : Int)) = false := bne_eq_false_iff_eq.mpr c3
  have c3b2 : (l0.length == l1.length) = true := by first | simpa using c3 | (simp at c3 ⊢; omega)
  clear c3
  have H' := am H
  clear H
  go_enter Try.func22, Try.ntmps22
  go_wp2
  repeat (go_quiet (fail); try go_wp2)
  go_loopg [13] k (fun kq v13 w' => ∃ (x13_1 : Int), v13 = .int .i64 x13_1 ∧ Aside0 (examboardlaw53_equal.l0 kq l0 l1 (l0.length : Int) x13_1 = some r) ∧ Aside0 (kq ≤ k) ∧ Drawn0 w w')
  case atStart => exact ⟨(0), (by first | rfl | (simp; done) | (simp [*]; done)), H', ⟨Nat.le_refl _⟩, by repeat (first | exact Drawn0.refl _ | apply Drawn0.step)⟩
  case round =>
   clear H'
   try clear c1
   try clear c2
   try clear p2
   try clear c3
   try clear c3b0
   try clear c3b1
   try clear c3b2
   obtain ⟨x13_1, rfl, HA, HK1, ⟨m1, rfl⟩⟩ := hrel
   cases gk with
   | zero => exact absurd HA.out (by simp [examboardlaw53_equal.l0])
   | succ k1 =>
    have H := HA.out
    clear HA
    simp only [examboardlaw53_equal.l0] at H
    by_cases c4 : x13_1 < (l0.length : Int)
    ·
     rw [if_pos c4] at H
     have c4b0 : decide (x13_1 < (l0.length : Int)) = true := decide_eq_true c4
     clear c4
     by_cases c5 : 0 ≤ x13_1
     ·
      rw [if_pos c5] at H
      have c5b0 : decide (0 ≤ x13_1) = true := decide_eq_true c5
      clear c5
      by_cases c6 : x13_1 < (l0.length : Int)
      ·
       rw [if_pos c6] at H
       have c6b0 : decide (x13_1 < (l0.length : Int)) = true := decide_eq_true c6
       clear c6
       by_cases c7 : x13_1 < (l1.length : Int)
       ·
        rw [if_pos c7] at H
        have c7b0 : decide (x13_1 < (l1.length : Int)) = true := decide_eq_true c7
        clear c7
        by_cases c8 : (rd l0 x13_1) = (rd l1 x13_1)
        ·
         rw [if_pos c8] at H
         have c8b0 : ((rd l0 x13_1) == (rd l1 x13_1)) = true := beq_iff_eq.mpr c8
         have c8b1 : ((rd l0 x13_1) != (rd l1 x13_1)) = false := bne_eq_false_iff_eq.mpr c8
         clear c8
         have H' := am H
         clear H
         have p142 : 0 ≤ (x13_1 : Int) := of_decide_eq_true az
         have q142 : x13_1 < (l0.length : Int) := of_decide_eq_true az
         obtain ⟨ad142, e142, hx142_0⟩ := Kd.at_int HR0.out x13_1 p142 q142
         cases e142
         replace p142 := eq_true p142
         replace q142 := eq_true q142
         have p143 : 0 ≤ (x13_1 : Int) := of_decide_eq_true az
         have q143 : x13_1 < (l1.length : Int) := of_decide_eq_true az
         obtain ⟨ad143, e143, hx143_0⟩ := Kd.at_int HR1.out x13_1 p143 q143
         cases e143
         replace p143 := eq_true p143
         replace q143 := eq_true q143
         go_wp2
         repeat (go_quiet (fail); try go_wp2)
         go_roundg k1
         case measure => have := HK1.out; omega
         case rel => exact ⟨(wrap64 (x13_1 + 1)), (by first | rfl | (simp; done) | (simp [*]; done)), H', ⟨by have := HK1.out; omega⟩, by repeat (first | exact Drawn0.refl _ | apply Drawn0.step)⟩
        ·
         rw [if_neg c8] at H
         have c8b0 : ((rd l0 x13_1) == (rd l1 x13_1)) = false := beq_eq_false_iff_ne.mpr c8
         have c8b1 : ((rd l0 x13_1) != (rd l1 x13_1)) = true := bne_iff_ne.mpr c8
         obtain rfl := Option.some.inj H
         have p142 : 0 ≤ (x13_1 : Int) := of_decide_eq_true az
         have q142 : x13_1 < (l0.length : Int) := of_decide_eq_true az
         obtain ⟨ad142, e142, hx142_0⟩ := Kd.at_int HR0.out x13_1 p142 q142
         cases e142
         replace p142 := eq_true p142
         replace q142 := eq_true q142
         have p143 : 0 ≤ (x13_1 : Int) := of_decide_eq_true az
         have q143 : x13_1 < (l1.length : Int) := of_decide_eq_true az
         obtain ⟨ad143, e143, hx143_0⟩ := Kd.at_int HR1.out x13_1 p143 q143
         cases e143
         replace p143 := eq_true p143
         replace q143 := eq_true q143
         go_wp2
         repeat (go_quiet (fail); try go_wp2)
         go_ret
         exact ⟨by first | rfl | (simp; done) | (simp [*]; done), by repeat (first | exact Drawn0.refl _ | apply Drawn0.step)⟩
       ·
        rw [if_neg c7] at H
        exact absurd H (by simp)
      ·
       rw [if_neg c6] at H
       exact absurd H (by simp)
     ·
      rw [if_neg c5] at H
      exact absurd H (by simp)
    ·
     rw [if_neg c4] at H
     have c4b0 : decide (x13_1 < (l0.length : Int)) = false := decide_eq_false c4
     clear c4
     obtain rfl := Option.some.inj H
     go_wp2
     repeat (go_quiet (fail); try go_wp2)
     go_ret
     exact ⟨by first | rfl | (simp; done) | (simp [*]; done), by repeat (first | exact Drawn0.refl _ | apply Drawn0.step)⟩
 ·
  rw [if_neg c3] at H
  have c3b0 : ((l0.length : Int) == (l1.length : Int)) = false := beq_eq_false_iff_ne.mpr c3
  have c3b1 : ((l0.length : Int) != (l1.length : Int)) = true := bne_iff_ne.mpr c3
  have c3b2 : (l0.length == l1.length) = false := by first | simpa using c3 | (simp at c3 ⊢; omega)
  obtain rfl := Option.some.inj H
  go_enter Try.func22, Try.ntmps22
  go_wp2
  repeat (go_quiet (fail); try go_wp2)
  go_ret
  exact ⟨by first | rfl | (simp; done) | (simp [*]; done), by repeat (first | exact Drawn0.refl _ | apply Drawn0.step)⟩

/-! ### examboardlaw53_samePacket: function 11 -/
def examboardlaw53_samePacket.f (k : Nat) (a0_0 : Int) (a0_1 : Int) (l0_2 : List Int) (a0_3 : Int) (a1_0 : Int) (a1_1 : Int) (l1_2 : List Int) (a1_3 : Int) : Option (Bool) := if a0_0 = a1_0 then (if a0_1 = a1_1 then (if a0_3 = a1_3 then ((examboardlaw53_equal.f k l0_2 l1_2).bind fun t146 => (some t146)) else (some false)) else (some false)) else (some false)
theorem examboardlaw53_samePacket.mono : ∀ a0 a1 a2 a3 a4 a5 a6 a7 k, LeO (examboardlaw53_samePacket.f k a0 a1 a2 a3 a4 a5 a6 a7) (examboardlaw53_samePacket.f (k + 1) a0 a1 a2 a3 a4 a5 a6 a7) := by
 intro a0 a1 a2 a3 a4 a5 a6 a7 k
 unfold examboardlaw53_samePacket.f
 repeat' first
   | (with_reducible exact examboardlaw53_equal.mono _ _ _)
   | (with_reducible exact LeO.refl _)
   | (with_reducible exact LeO.none _)
   | (with_reducible refine LeO.ite ?_ ?_)
   | (with_reducible refine LeO.bind ?_ (fun _ => ?_))
   | exact examboardlaw53_equal.mono _ _ _
   | exact LeO.none _
   | refine LeO.ite ?_ ?_
   | refine LeO.bind ?_ (fun _ => ?_)
set_option maxHeartbeats 8000000 in
set_option maxRecDepth 100000 in
theorem examboardlaw53_samePacket.calls (k : Nat) (a0_0 : Int) (a0_1 : Int) (A0_2 : Option Addr) (c0_2 : Nat) (l0_2 : List Int) (a0_3 : Int) (a1_0 : Int) (a1_1 : Int) (A1_2 : Option Addr) (c1_2 : Nat) (l1_2 : List Int) (a1_3 : Int) (r : Bool) (w : World) (hr0_2 : Kd.C (Kd.int .u8) w A0_2 l0_2.length l0_2) (hc0_2 : l0_2.length ≤ c0_2) (hr1_2 : Kd.C (Kd.int .u8) w A1_2 l1_2.length l1_2) (hc1_2 : l1_2.length ≤ c1_2) (h : examboardlaw53_samePacket.f k a0_0 a0_1 l0_2 a0_3 a1_0 a1_1 l1_2 a1_3 = some r) :
  Calls Try.prog 11 #[.agg #[.int .i64 a0_0, .int .i64 a0_1, .slice A0_2 l0_2.length c0_2, .int .u64 a0_3], .agg #[.int .i64 a1_0, .int .i64 a1_1, .slice A1_2 l1_2.length c1_2, .int .u64 a1_3]] w fun e w' => e = .returned (.bool r) ∧ Below w.heap.size w w' := by
 have hu25 := Try.underlying25
 have HR0_2 := am hr0_2
 have HC0_2 := am hc0_2
 clear hr0_2 hc0_2
 have HR1_2 := am hr1_2
 have HC1_2 := am hc1_2
 clear hr1_2 hc1_2
 have HB := am (Below.refl w.heap.size w)
 have H : (if a0_0 = a1_0 then (if a0_1 = a1_1 then (if a0_3 = a1_3 then ((examboardlaw53_equal.f k l0_2 l1_2).bind fun t146 => (some t146)) else (some false)) else (some false)) else (some false)) = some r := h
 clear h
 by_cases c3 : a0_0 = a1_0
 ·
  rw [if_pos c3] at H
  have c3b0 : (a0_0 == a1_0) = true := beq_iff_eq.mpr c3
  have c3b1 : (a0_0 != a1_0) = false := bne_eq_false_iff_eq.mpr c3
  clear c3
  by_cases c4 : a0_1 = a1_1
  ·
   rw [if_pos c4] at H
   have c4b0 : (a0_1 == a1_1) = true := beq_iff_eq.mpr c4
   have c4b1 : (a0_1 != a1_1) = false := bne_eq_false_iff_eq.mpr c4
   clear c4
   by_cases c5 : a0_3 = a1_3
   ·
    rw [if_pos c5] at H
    have c5b0 : (a0_3 == a1_3) = true := beq_iff_eq.mpr c5
    have c5b1 : (a0_3 != a1_3) = false := bne_eq_false_iff_eq.mpr c5
    clear c5
    replace H := Option.bind_eq_some_iff.mp H
    obtain ⟨t146, A60, H⟩ := H
    replace H : (some t146) = some r := H
    have A6 := am A60
    clear A60
    obtain rfl := Option.some.inj H
    go_enter Try.func11, Try.ntmps11
    go_wp2_with (first | ((with_reducible refine gate_dst (N := 2) rfl ?_); refine box_event ?hg (N := 2) ?hd (cs := #[.int .i64 a0_0, .int .i64 a0_1, .slice A0_2 l0_2.length c0_2, .int .u64 a0_3]) (t := 25) ?hr ?_; (case hd => rfl); (case hg => rfl); (case hr => exact gz); intro gb144 hg w7 hbox hb; have n0_ := am (below_step (hz HB.out) hb); have n1_ := am (hbox); have n2_ := am ((bs hg (hz HB.out) : w.heap.size ≤ gb144)); have n3_ := am ((bs hg (hz HB.out) : w.heap.size ≤ gb144)); clear HB; have HB := n0_; have BK144 := n1_; have GW144 := n2_; have GE144 := n3_; clear n0_ n1_ n2_ n3_; clear hb hbox hg) | ((with_reducible refine gate_dst (N := 3) rfl ?_); refine box_event ?hg (N := 3) ?hd (cs := #[.int .i64 a1_0, .int .i64 a1_1, .slice A1_2 l1_2.length c1_2, .int .u64 a1_3]) (t := 25) ?hr ?_; (case hd => rfl); (case hg => rfl); (case hr => exact gz); intro gb145 hg w8 hbox hb; have n0_ := am (blk_below (bz BK144.out) hb); have n1_ := am (below_step (hz1 HB.out GE144.out) hb); have n2_ := am (hbox); have n3_ := am ((bs hg (hz1 HB.out GE144.out) : w.heap.size ≤ gb145)); have n4_ := am ((bs hg (hz1 HB.out GE144.out) : w.heap.size ≤ gb145)); have n5_ := am ((nl hg (bz BK144.out) : gb144 ≠ gb145)); have n6_ := am ((ng hg (bz BK144.out) : gb145 ≠ gb144)); clear BK144; clear HB; have BK144 := n0_; have HB := n1_; have BK145 := n2_; have GW145 := n3_; have GE145 := n4_; have NB144_145 := n5_; have NB145_144 := n6_; clear n0_ n1_ n2_ n3_ n4_ n5_ n6_; clear hb hbox hg; have hnb9 := NB144_145.out; have hnc9 := NB145_144.out; obtain ⟨hcz10_0, hcz10_1, hcz10_2, hcz10_3⟩ := cs4 BK144.out; obtain ⟨hfz10_0, hfz10_1, hfz10_2, hfz10_3⟩ := fs4 BK144.out; obtain ⟨hcz11_0, hcz11_1, hcz11_2, hcz11_3⟩ := cs4 BK145.out; obtain ⟨hfz11_0, hfz11_1, hfz11_2, hfz11_3⟩ := fs4 BK145.out) | (go_at_call 22; (with_reducible refine (examboardlaw53_equal.calls k _ _ l0_2 _ _ l1_2 t146 _ ?side1 ?side2 ?side3 ?side4 A6.out).mono ?_); (case side1 => exact cz (Kd.C_below HR0_2.out HB.out)); (case side2 => exact HC0_2.out); (case side3 => exact cz (Kd.C_below HR1_2.out HB.out)); (case side4 => exact HC1_2.out); rintro e w' ⟨rfl, ⟨nd, rfl⟩⟩))
    go_ret
    exact ⟨ez, hz2 HB.out GE144.out GE145.out⟩
   ·
    rw [if_neg c5] at H
    have c5b0 : (a0_3 == a1_3) = false := beq_eq_false_iff_ne.mpr c5
    have c5b1 : (a0_3 != a1_3) = true := bne_iff_ne.mpr c5
    obtain rfl := Option.some.inj H
    go_enter Try.func11, Try.ntmps11
    go_wp2_with (first | ((with_reducible refine gate_dst (N := 2) rfl ?_); refine box_event ?hg (N := 2) ?hd (cs := #[.int .i64 a0_0, .int .i64 a0_1, .slice A0_2 l0_2.length c0_2, .int .u64 a0_3]) (t := 25) ?hr ?_; (case hd => rfl); (case hg => rfl); (case hr => exact gz); intro gb144 hg w12 hbox hb; have n0_ := am (below_step (hz HB.out) hb); have n1_ := am (hbox); have n2_ := am ((bs hg (hz HB.out) : w.heap.size ≤ gb144)); have n3_ := am ((bs hg (hz HB.out) : w.heap.size ≤ gb144)); clear HB; have HB := n0_; have BK144 := n1_; have GW144 := n2_; have GE144 := n3_; clear n0_ n1_ n2_ n3_; clear hb hbox hg) | ((with_reducible refine gate_dst (N := 3) rfl ?_); refine box_event ?hg (N := 3) ?hd (cs := #[.int .i64 a1_0, .int .i64 a1_1, .slice A1_2 l1_2.length c1_2, .int .u64 a1_3]) (t := 25) ?hr ?_; (case hd => rfl); (case hg => rfl); (case hr => exact gz); intro gb145 hg w13 hbox hb; have n0_ := am (blk_below (bz BK144.out) hb); have n1_ := am (below_step (hz1 HB.out GE144.out) hb); have n2_ := am (hbox); have n3_ := am ((bs hg (hz1 HB.out GE144.out) : w.heap.size ≤ gb145)); have n4_ := am ((bs hg (hz1 HB.out GE144.out) : w.heap.size ≤ gb145)); have n5_ := am ((nl hg (bz BK144.out) : gb144 ≠ gb145)); have n6_ := am ((ng hg (bz BK144.out) : gb145 ≠ gb144)); clear BK144; clear HB; have BK144 := n0_; have HB := n1_; have BK145 := n2_; have GW145 := n3_; have GE145 := n4_; have NB144_145 := n5_; have NB145_144 := n6_; clear n0_ n1_ n2_ n3_ n4_ n5_ n6_; clear hb hbox hg; have hnb14 := NB144_145.out; have hnc14 := NB145_144.out; obtain ⟨hcz15_0, hcz15_1, hcz15_2, hcz15_3⟩ := cs4 BK144.out; obtain ⟨hfz15_0, hfz15_1, hfz15_2, hfz15_3⟩ := fs4 BK144.out; obtain ⟨hcz16_0, hcz16_1, hcz16_2, hcz16_3⟩ := cs4 BK145.out; obtain ⟨hfz16_0, hfz16_1, hfz16_2, hfz16_3⟩ := fs4 BK145.out))
    go_ret
    exact ⟨ez, hz2 HB.out GE144.out GE145.out⟩
  ·
   rw [if_neg c4] at H
   have c4b0 : (a0_1 == a1_1) = false := beq_eq_false_iff_ne.mpr c4
   have c4b1 : (a0_1 != a1_1) = true := bne_iff_ne.mpr c4
   obtain rfl := Option.some.inj H
   go_enter Try.func11, Try.ntmps11
   go_wp2_with (first | ((with_reducible refine gate_dst (N := 2) rfl ?_); refine box_event ?hg (N := 2) ?hd (cs := #[.int .i64 a0_0, .int .i64 a0_1, .slice A0_2 l0_2.length c0_2, .int .u64 a0_3]) (t := 25) ?hr ?_; (case hd => rfl); (case hg => rfl); (case hr => exact gz); intro gb144 hg w17 hbox hb; have n0_ := am (below_step (hz HB.out) hb); have n1_ := am (hbox); have n2_ := am ((bs hg (hz HB.out) : w.heap.size ≤ gb144)); have n3_ := am ((bs hg (hz HB.out) : w.heap.size ≤ gb144)); clear HB; have HB := n0_; have BK144 := n1_; have GW144 := n2_; have GE144 := n3_; clear n0_ n1_ n2_ n3_; clear hb hbox hg) | ((with_reducible refine gate_dst (N := 3) rfl ?_); refine box_event ?hg (N := 3) ?hd (cs := #[.int .i64 a1_0, .int .i64 a1_1, .slice A1_2 l1_2.length c1_2, .int .u64 a1_3]) (t := 25) ?hr ?_; (case hd => rfl); (case hg => rfl); (case hr => exact gz); intro gb145 hg w18 hbox hb; have n0_ := am (blk_below (bz BK144.out) hb); have n1_ := am (below_step (hz1 HB.out GE144.out) hb); have n2_ := am (hbox); have n3_ := am ((bs hg (hz1 HB.out GE144.out) : w.heap.size ≤ gb145)); have n4_ := am ((bs hg (hz1 HB.out GE144.out) : w.heap.size ≤ gb145)); have n5_ := am ((nl hg (bz BK144.out) : gb144 ≠ gb145)); have n6_ := am ((ng hg (bz BK144.out) : gb145 ≠ gb144)); clear BK144; clear HB; have BK144 := n0_; have HB := n1_; have BK145 := n2_; have GW145 := n3_; have GE145 := n4_; have NB144_145 := n5_; have NB145_144 := n6_; clear n0_ n1_ n2_ n3_ n4_ n5_ n6_; clear hb hbox hg; have hnb19 := NB144_145.out; have hnc19 := NB145_144.out; obtain ⟨hcz20_0, hcz20_1, hcz20_2, hcz20_3⟩ := cs4 BK144.out; obtain ⟨hfz20_0, hfz20_1, hfz20_2, hfz20_3⟩ := fs4 BK144.out; obtain ⟨hcz21_0, hcz21_1, hcz21_2, hcz21_3⟩ := cs4 BK145.out; obtain ⟨hfz21_0, hfz21_1, hfz21_2, hfz21_3⟩ := fs4 BK145.out))
   go_ret
   exact ⟨ez, hz2 HB.out GE144.out GE145.out⟩
 ·
  rw [if_neg c3] at H
  have c3b0 : (a0_0 == a1_0) = false := beq_eq_false_iff_ne.mpr c3
  have c3b1 : (a0_0 != a1_0) = true := bne_iff_ne.mpr c3
  obtain rfl := Option.some.inj H
  go_enter Try.func11, Try.ntmps11
  go_wp2_with (first | ((with_reducible refine gate_dst (N := 2) rfl ?_); refine box_event ?hg (N := 2) ?hd (cs := #[.int .i64 a0_0, .int .i64 a0_1, .slice A0_2 l0_2.length c0_2, .int .u64 a0_3]) (t := 25) ?hr ?_; (case hd => rfl); (case hg => rfl); (case hr => exact gz); intro gb144 hg w22 hbox hb; have n0_ := am (below_step (hz HB.out) hb); have n1_ := am (hbox); have n2_ := am ((bs hg (hz HB.out) : w.heap.size ≤ gb144)); have n3_ := am ((bs hg (hz HB.out) : w.heap.size ≤ gb144)); clear HB; have HB := n0_; have BK144 := n1_; have GW144 := n2_; have GE144 := n3_; clear n0_ n1_ n2_ n3_; clear hb hbox hg) | ((with_reducible refine gate_dst (N := 3) rfl ?_); refine box_event ?hg (N := 3) ?hd (cs := #[.int .i64 a1_0, .int .i64 a1_1, .slice A1_2 l1_2.length c1_2, .int .u64 a1_3]) (t := 25) ?hr ?_; (case hd => rfl); (case hg => rfl); (case hr => exact gz); intro gb145 hg w23 hbox hb; have n0_ := am (blk_below (bz BK144.out) hb); have n1_ := am (below_step (hz1 HB.out GE144.out) hb); have n2_ := am (hbox); have n3_ := am ((bs hg (hz1 HB.out GE144.out) : w.heap.size ≤ gb145)); have n4_ := am ((bs hg (hz1 HB.out GE144.out) : w.heap.size ≤ gb145)); have n5_ := am ((nl hg (bz BK144.out) : gb144 ≠ gb145)); have n6_ := am ((ng hg (bz BK144.out) : gb145 ≠ gb144)); clear BK144; clear HB; have BK144 := n0_; have HB := n1_; have BK145 := n2_; have GW145 := n3_; have GE145 := n4_; have NB144_145 := n5_; have NB145_144 := n6_; clear n0_ n1_ n2_ n3_ n4_ n5_ n6_; clear hb hbox hg; have hnb24 := NB144_145.out; have hnc24 := NB145_144.out; obtain ⟨hcz25_0, hcz25_1, hcz25_2, hcz25_3⟩ := cs4 BK144.out; obtain ⟨hfz25_0, hfz25_1, hfz25_2, hfz25_3⟩ := fs4 BK144.out; obtain ⟨hcz26_0, hcz26_1, hcz26_2, hcz26_3⟩ := cs4 BK145.out; obtain ⟨hfz26_0, hfz26_1, hfz26_2, hfz26_3⟩ := fs4 BK145.out))
  go_ret
  exact ⟨ez, hz2 HB.out GE144.out GE145.out⟩

/-! ### upload_divide: function 32 -/
mutual
def upload_divide.j0 : Nat → Int → List Int → Int → Int → Bool → Option ((List (S25)) × Int)
 | 0, _, _, _, _, _ => none
 | k + 1, x0, x1, x2, x3, x41 => if x41 = true then (some (([] : List (S25)), 3)) else (upload_divide.l0 k x0 x1 x3 ([] : List (S25)) x2)
def upload_divide.l0 : Nat → Int → List Int → Int → List (S25) → Int → Option ((List (S25)) × Int)
 | 0, _, _, _, _, _ => none
 | k + 1, x0, x1, x3, x10, x11 => if x11 < (x1.length : Int) then (if 0 ≤ x11 then (if x11 ≤ (mn (wrap64 (x11 + x3)) (x1.length : Int)) then (if (mn (wrap64 (x11 + x3)) (x1.length : Int)) ≤ (x1.length : Int) then ((upload_Packet.f k x0 x11 ((x1.take ((mn (wrap64 (x11 + x3)) (x1.length : Int)) : Int).toNat).drop (x11 : Int).toNat)).bind fun bt149 => (if bt149.2.2.2.2 = 0 then (if x10.length < 2932031007402 then (upload_divide.l0 k x0 x1 x3 (x10 ++ [(⟨bt149.1, bt149.2.1, bt149.2.2.1, bt149.2.2.2.1⟩ : S25)]) (wrap64 (x11 + x3))) else (none)) else (none))) else (none)) else (none)) else (none)) else (some (x10, 0))
end
def upload_divide.f (k : Nat) (a0 : Int) (l1 : List Int) (a2 : Int) (a3 : Int) : Option ((List (S25)) × Int) := (upload_number.f a0).bind fun t147 => (if t147 = true then (if a3 < 1 then (upload_divide.j0 k a0 l1 a2 a3 true) else (if a3 > 2000 then (upload_divide.j0 k a0 l1 a2 a3 true) else (if (l1.length : Int) > 1048576 then (upload_divide.j0 k a0 l1 a2 a3 true) else (if a3 = 0 then (none) else (upload_divide.j0 k a0 l1 a2 a3 (decide ((wrap64 (Int.tdiv (wrap64 ((wrap64 ((wrap64 ((l1.length : Int) - a2)) + a3)) - 1)) a3)) > 1024))))))) else (upload_divide.j0 k a0 l1 a2 a3 true))
theorem upload_divide.mono_l : ∀ k, (∀ y0 y1 y2 y3 y4, LeO (upload_divide.j0 k y0 y1 y2 y3 y4) (upload_divide.j0 (k + 1) y0 y1 y2 y3 y4)) ∧ (∀ y0 y1 y2 y3 y4, LeO (upload_divide.l0 k y0 y1 y2 y3 y4) (upload_divide.l0 (k + 1) y0 y1 y2 y3 y4))
 | 0 => ⟨fun _ _ _ _ _ r h => by simp [upload_divide.j0] at h, fun _ _ _ _ _ r h => by simp [upload_divide.l0] at h⟩
 | k + 1 => by
  obtain ⟨ih0, ih1⟩ := upload_divide.mono_l k
  refine ⟨?_, ?_⟩
  ·
   intro y0 y1 y2 y3 y4
   unfold upload_divide.j0
   repeat' first
   | (with_reducible exact ih0 _ _ _ _ _)
   | (with_reducible exact ih1 _ _ _ _ _)
   | (with_reducible exact upload_Packet.mono _ _ _ _)
   | (with_reducible exact LeO.refl _)
   | (with_reducible exact LeO.none _)
   | (with_reducible refine LeO.ite ?_ ?_)
   | (with_reducible refine LeO.bind ?_ (fun _ => ?_))
   | exact ih0 _ _ _ _ _
   | exact ih1 _ _ _ _ _
   | exact upload_Packet.mono _ _ _ _
   | exact LeO.none _
   | refine LeO.ite ?_ ?_
   | refine LeO.bind ?_ (fun _ => ?_)
  ·
   intro y0 y1 y2 y3 y4
   unfold upload_divide.l0
   repeat' first
   | (with_reducible exact ih0 _ _ _ _ _)
   | (with_reducible exact ih1 _ _ _ _ _)
   | (with_reducible exact upload_Packet.mono _ _ _ _)
   | (with_reducible exact LeO.refl _)
   | (with_reducible exact LeO.none _)
   | (with_reducible refine LeO.ite ?_ ?_)
   | (with_reducible refine LeO.bind ?_ (fun _ => ?_))
   | exact ih0 _ _ _ _ _
   | exact ih1 _ _ _ _ _
   | exact upload_Packet.mono _ _ _ _
   | exact LeO.none _
   | refine LeO.ite ?_ ?_
   | refine LeO.bind ?_ (fun _ => ?_)
theorem upload_divide.mono : ∀ a0 a1 a2 a3 k, LeO (upload_divide.f k a0 a1 a2 a3) (upload_divide.f (k + 1) a0 a1 a2 a3) := by
 intro a0 a1 a2 a3 k
 obtain ⟨ih0, ih1⟩ := upload_divide.mono_l k
 unfold upload_divide.f
 repeat' first
   | (with_reducible exact ih0 _ _ _ _ _)
   | (with_reducible exact ih1 _ _ _ _ _)
   | (with_reducible exact upload_Packet.mono _ _ _ _)
   | (with_reducible exact LeO.refl _)
   | (with_reducible exact LeO.none _)
   | (with_reducible refine LeO.ite ?_ ?_)
   | (with_reducible refine LeO.bind ?_ (fun _ => ?_))
   | exact ih0 _ _ _ _ _
   | exact ih1 _ _ _ _ _
   | exact upload_Packet.mono _ _ _ _
   | exact LeO.none _
   | refine LeO.ite ?_ ?_
   | refine LeO.bind ?_ (fun _ => ?_)
set_option maxHeartbeats 8000000 in
set_option maxRecDepth 100000 in
theorem upload_divide.calls (k : Nat) (a0 : Int) (A1 : Option Addr) (c1 : Nat) (l1 : List Int) (a2 : Int) (a3 : Int) (r1 : List (S25)) (r2 : Int) (w : World) (hr1 : Kd.C (Kd.int .u8) w A1 l1.length l1) (hc1 : l1.length ≤ c1) (h : upload_divide.f k a0 l1 a2 a3 = some (r1, r2)) :
  Calls Try.prog 32 #[.int .i64 a0, .slice A1 l1.length c1, .int .i64 a2, .int .i64 a3] w fun e w' => ∃ v0_ : Value, e = .returned (.tuple #[v0_, .int .i64 r2]) ∧ Kd.S k25 25 w' w.heap.size (fun _ => True) v0_ r1 ∧ Below w.heap.size w w' := by
 have hu25 := Try.underlying25
 have HR1 := am hr1
 have HC1 := am hc1
 clear hr1 hc1
 have HB := am (Below.refl w.heap.size w)
 have H : ((upload_number.f a0).bind fun t147 => (if t147 = true then (if a3 < 1 then (upload_divide.j0 k a0 l1 a2 a3 true) else (if a3 > 2000 then (upload_divide.j0 k a0 l1 a2 a3 true) else (if (l1.length : Int) > 1048576 then (upload_divide.j0 k a0 l1 a2 a3 true) else (if a3 = 0 then (none) else (upload_divide.j0 k a0 l1 a2 a3 (decide ((wrap64 (Int.tdiv (wrap64 ((wrap64 ((wrap64 ((l1.length : Int) - a2)) + a3)) - 1)) a3)) > 1024))))))) else (upload_divide.j0 k a0 l1 a2 a3 true))) = some (r1, r2) := h
 clear h
 have HC5 := am H
 clear H
 go_enter Try.func32, Try.ntmps32
 go_upto_region 1 with (fail)
 go_cut [41] (fun v41 wc => ∃ (kq : Nat) (x41_4 : Bool), v41 = .bool x41_4 ∧ Aside0 (upload_divide.j0 kq a0 l1 a2 a3 x41_4 = some (r1, r2)) ∧ Aside0 (kq ≤ k) ∧ Aside0 (Below w.heap.size w wc))
 case first =>
  have H := HC5.out
  clear HC5
  replace H := Option.bind_eq_some_iff.mp H
  obtain ⟨t147, A60, H⟩ := H
  replace H : (if t147 = true then (if a3 < 1 then (upload_divide.j0 k a0 l1 a2 a3 true) else (if a3 > 2000 then (upload_divide.j0 k a0 l1 a2 a3 true) else (if (l1.length : Int) > 1048576 then (upload_divide.j0 k a0 l1 a2 a3 true) else (if a3 = 0 then (none) else (upload_divide.j0 k a0 l1 a2 a3 (decide ((wrap64 (Int.tdiv (wrap64 ((wrap64 ((wrap64 ((l1.length : Int) - a2)) + a3)) - 1)) a3)) > 1024))))))) else (upload_divide.j0 k a0 l1 a2 a3 true)) = some (r1, r2) := H
  have A6 := am A60
  clear A60
  by_cases c7 : t147 = true
  ·
   subst c7
   have H1 : (if a3 < 1 then (upload_divide.j0 k a0 l1 a2 a3 true) else (if a3 > 2000 then (upload_divide.j0 k a0 l1 a2 a3 true) else (if (l1.length : Int) > 1048576 then (upload_divide.j0 k a0 l1 a2 a3 true) else (if a3 = 0 then (none) else (upload_divide.j0 k a0 l1 a2 a3 (decide ((wrap64 (Int.tdiv (wrap64 ((wrap64 ((wrap64 ((l1.length : Int) - a2)) + a3)) - 1)) a3)) > 1024))))))) = some (r1, r2) := by rw [if_pos rfl] at H; exact H
   clear H
   have H := H1
   clear H1
   by_cases c8 : a3 < 1
   ·
    rw [if_pos c8] at H
    have c8b0 : decide (a3 < 1) = true := decide_eq_true c8
    clear c8
    (first | rw [c8b0] | (simp only [i64_w, i32_w]; rw [c8b0]) | skip)
    have H' := am H
    clear H
    go_wp2_with (first | ((with_reducible refine gate_callee (f := 34) rfl ?_); refine goesL_ (some 15) rfl rfl Try.func34 (by kernel_rfl) rfl #[.int .i64 a0] rfl lz ?_; (with_reducible refine (upload_number.calls a0 true _ A6.out).mono ?_); rintro e w' ⟨rfl, ⟨nd, rfl⟩⟩; refine ⟨_, rfl, ?_⟩))
    go_meet
    case rel => exact ⟨_, (true), (by first | rfl | (simp; done) | (simp [*]; done)), H', ⟨by first | omega | exact Nat.le_refl _⟩, ⟨hz HB.out⟩⟩
   ·
    rw [if_neg c8] at H
    have c8b0 : decide (a3 < 1) = false := decide_eq_false c8
    clear c8
    (first | rw [c8b0] | (simp only [i64_w, i32_w]; rw [c8b0]) | skip)
    by_cases c9 : a3 > 2000
    ·
     rw [if_pos c9] at H
     have c9b0 : decide (2000 < a3) = true := decide_eq_true c9
     clear c9
     have H' := am H
     clear H
     go_wp2_with (first | ((with_reducible refine gate_callee (f := 34) rfl ?_); refine goesL_ (some 15) rfl rfl Try.func34 (by kernel_rfl) rfl #[.int .i64 a0] rfl lz ?_; (with_reducible refine (upload_number.calls a0 true _ A6.out).mono ?_); rintro e w' ⟨rfl, ⟨nd, rfl⟩⟩; refine ⟨_, rfl, ?_⟩))
     go_meet
     case rel => exact ⟨_, (true), (by first | rfl | (simp; done) | (simp [*]; done)), H', ⟨by first | omega | exact Nat.le_refl _⟩, ⟨hz HB.out⟩⟩
    ·
     rw [if_neg c9] at H
     have c9b0 : decide (2000 < a3) = false := decide_eq_false c9
     clear c9
     by_cases c10 : (l1.length : Int) > 1048576
     ·
      rw [if_pos c10] at H
      have c10b0 : decide (1048576 < (l1.length : Int)) = true := decide_eq_true c10
      have c10b1 : decide (1048576 < l1.length) = true := decide_eq_true (by omega)
      clear c10
      have H' := am H
      clear H
      go_wp2_with (first | ((with_reducible refine gate_callee (f := 34) rfl ?_); refine goesL_ (some 15) rfl rfl Try.func34 (by kernel_rfl) rfl #[.int .i64 a0] rfl lz ?_; (with_reducible refine (upload_number.calls a0 true _ A6.out).mono ?_); rintro e w' ⟨rfl, ⟨nd, rfl⟩⟩; refine ⟨_, rfl, ?_⟩))
      go_meet
      case rel => exact ⟨_, (true), (by first | rfl | (simp; done) | (simp [*]; done)), H', ⟨by first | omega | exact Nat.le_refl _⟩, ⟨hz HB.out⟩⟩
     ·
      rw [if_neg c10] at H
      have c10b0 : decide (1048576 < (l1.length : Int)) = false := decide_eq_false c10
      have c10b1 : decide (1048576 < l1.length) = false := decide_eq_false (by omega)
      clear c10
      by_cases c11 : a3 = 0
      ·
       rw [if_pos c11] at H
       exact absurd H (by simp)
      ·
       rw [if_neg c11] at H
       have c11b0 : (a3 == 0) = false := beq_eq_false_iff_ne.mpr c11
       have c11b1 : (a3 != 0) = true := bne_iff_ne.mpr c11
       have H' := am H
       clear H
       go_wp2_with (first | ((with_reducible refine gate_callee (f := 34) rfl ?_); refine goesL_ (some 15) rfl rfl Try.func34 (by kernel_rfl) rfl #[.int .i64 a0] rfl lz ?_; (with_reducible refine (upload_number.calls a0 true _ A6.out).mono ?_); rintro e w' ⟨rfl, ⟨nd, rfl⟩⟩; refine ⟨_, rfl, ?_⟩))
       go_meet
       case rel => exact ⟨_, (decide ((wrap64 (Int.tdiv (wrap64 ((wrap64 ((wrap64 ((l1.length : Int) - a2)) + a3)) - 1)) a3)) > 1024)), (by first | rfl | (simp; done) | (simp [*]; done)), H', ⟨by first | omega | exact Nat.le_refl _⟩, ⟨hz HB.out⟩⟩
  ·
   replace c7 := Bool.eq_false_iff.mpr c7
   subst c7
   have H1 : (upload_divide.j0 k a0 l1 a2 a3 true) = some (r1, r2) := by rw [if_neg (show ¬ (false = true) by decide)] at H; exact H
   clear H
   have H := H1
   clear H1
   have H' := am H
   clear H
   go_wp2_with (first | ((with_reducible refine gate_callee (f := 34) rfl ?_); refine goesL_ (some 15) rfl rfl Try.func34 (by kernel_rfl) rfl #[.int .i64 a0] rfl lz ?_; (with_reducible refine (upload_number.calls a0 false _ A6.out).mono ?_); rintro e w' ⟨rfl, ⟨nd, rfl⟩⟩; refine ⟨_, rfl, ?_⟩))
   go_meet
   case rel => exact ⟨_, (true), (by first | rfl | (simp; done) | (simp [*]; done)), H', ⟨by first | omega | exact Nat.le_refl _⟩, ⟨hz HB.out⟩⟩
 case rest =>
  clear HC5
  try clear c1
  try clear p2
  try clear c3
  try clear p6
  try clear c7
  try clear c8
  try clear c8b0
  try clear c9
  try clear c9b0
  try clear c10
  try clear c10b0
  try clear c10b1
  try clear c11
  try clear c11b0
  try clear c11b1
  obtain ⟨kq, x41_4, rfl, HA, HJ4, HB⟩ := hcut
  cases kq with
  | zero => exact absurd HA.out (by simp [upload_divide.j0])
  | succ kj4 =>
   have H := HA.out
   clear HA
   simp only [upload_divide.j0] at H
   by_cases c12 : x41_4 = true
   ·
    subst c12
    have H1 : (some (([] : List (S25)), 3)) = some (r1, r2) := by rw [if_pos rfl] at H; exact H
    clear H
    have H := H1
    clear H1
    simp only [Option.some.injEq, Prod.mk.injEq] at H
    obtain ⟨rfl, rfl⟩ := H
    go_wp2
    go_ret2
    exact ⟨_, by first | rfl | (simp [errW_none, errW_some] <;> rfl) | (simp [*, errW_none, errW_some] <;> rfl), by first | exact Kd.S_nil _ _ _ _ _ | exact Kd.N_nil _ _ _ _ _ | exact Kd.V_nil _ _ _ _ _ | exact Kd.Q_nil _ _ _ _ _ | exact Kd.R_nil _ _ _ _ _, hz HB.out⟩
   ·
    replace c12 := Bool.eq_false_iff.mpr c12
    subst c12
    have H1 : (upload_divide.l0 kj4 a0 l1 a3 ([] : List (S25)) a2) = some (r1, r2) := by rw [if_neg (show ¬ (false = true) by decide)] at H; exact H
    clear H
    have H := H1
    clear H1
    have H' := am H
    clear H
    go_wp2
    go_loopg [10, 11] kj4 (fun kq v10 v11 w' => ∃ (x10_2 : List (S25)) (x11_2 : Int), v11 = .int .i64 x11_2 ∧ Aside0 (upload_divide.l0 kq a0 l1 a3 x10_2 x11_2 = some (r1, r2)) ∧ Aside0 (kq ≤ kj4) ∧ Aside0 (Kd.S k25 25 w' w.heap.size (fun _ => True) v10 x10_2) ∧ Aside0 (Below w.heap.size w w'))
    case atStart => exact ⟨(([] : List (S25))), (a2), (by first | rfl | (simp; done) | (simp [*]; done)), H', ⟨Nat.le_refl _⟩, ⟨by first | exact Kd.S_nil _ _ _ _ _ | exact Kd.N_nil _ _ _ _ _ | exact Kd.V_nil _ _ _ _ _ | exact Kd.Q_nil _ _ _ _ _ | exact Kd.R_nil _ _ _ _ _⟩, ⟨hz HB.out⟩⟩
    case round =>
     clear H'
     try clear c1
     try clear p2
     try clear c3
     try clear p6
     try clear c7
     try clear c8
     try clear c8b0
     try clear c9
     try clear c9b0
     try clear c10
     try clear c10b0
     try clear c10b1
     try clear c11
     try clear c11b0
     try clear c11b1
     try clear c12
     try clear p2
     try clear p6
     obtain ⟨x10_2, x11_2, rfl, HA, HK2, HO_10, HB⟩ := hrel
     cases gk with
     | zero => exact absurd HA.out (by simp [upload_divide.l0])
     | succ k2 =>
      have H := HA.out
      clear HA
      simp only [upload_divide.l0] at H
      by_cases c13 : x11_2 < (l1.length : Int)
      ·
       rw [if_pos c13] at H
       have c13b0 : decide (x11_2 < (l1.length : Int)) = true := decide_eq_true c13
       clear c13
       obtain ⟨ji14, hji14⟩ : ∃ j_ : Int, (mn (wrap64 (x11_2 + a3)) (l1.length : Int)) = j_ := ⟨_, rfl⟩
       replace H : (if 0 ≤ x11_2 then (if x11_2 ≤ (ji14) then (if (ji14) ≤ (l1.length : Int) then ((upload_Packet.f k2 a0 x11_2 ((l1.take ((ji14) : Int).toNat).drop (x11_2 : Int).toNat)).bind fun bt149 => (if bt149.2.2.2.2 = 0 then (if x10_2.length < 2932031007402 then (upload_divide.l0 k2 a0 l1 a3 (x10_2 ++ [(⟨bt149.1, bt149.2.1, bt149.2.2.1, bt149.2.2.2.1⟩ : S25)]) (wrap64 (x11_2 + a3))) else (none)) else (none))) else (none)) else (none)) else (none)) = some (r1, r2) := by first | (rw [hji14] at H; exact H) | (simp only [hji14] at H ⊢; exact H)
       have hji14_ : (if (l1.length : Int) < (wrap64 (x11_2 + a3)) then (l1.length : Int) else (wrap64 (x11_2 + a3))) = ji14 := hji14
       by_cases c15 : 0 ≤ x11_2
       ·
        rw [if_pos c15] at H
        have c15b0 := eq_true c15
        have c15b1 : decide (0 ≤ x11_2) = true := decide_eq_true c15
        clear c15
        by_cases c16 : x11_2 ≤ (ji14)
        ·
         rw [if_pos c16] at H
         have c16b0 := eq_true c16
         have c16b1 : decide (x11_2 ≤ (ji14)) = true := decide_eq_true c16
         clear c16
         by_cases c17 : (ji14) ≤ (l1.length : Int)
         ·
          rw [if_pos c17] at H
          have c17b0 := eq_true c17
          have c17b1 : decide ((ji14) ≤ (l1.length : Int)) = true := decide_eq_true c17
          clear c17
          replace H := Option.bind_eq_some_iff.mp H
          obtain ⟨⟨t149, t150, t151, t154, t155⟩, A180, H⟩ := H
          replace H : (if t155 = 0 then (if x10_2.length < 2932031007402 then (upload_divide.l0 k2 a0 l1 a3 (x10_2 ++ [(⟨t149, t150, t151, t154⟩ : S25)]) (wrap64 (x11_2 + a3))) else (none)) else (none)) = some (r1, r2) := H
          have A18 := am A180
          clear A180
          by_cases c19 : t155 = 0
          ·
           rw [if_pos c19] at H
           have c19b0 : (t155 == 0) = true := beq_iff_eq.mpr c19
           have c19b1 : (t155 != 0) = false := bne_eq_false_iff_eq.mpr c19
           clear c19
           by_cases c20 : x10_2.length < 2932031007402
           ·
            rw [if_pos c20] at H
            have LMc20 := am c20
            clear c20
            obtain ⟨y157, hy157⟩ : ∃ y_ : List (S25), y_ = (x10_2 ++ [(⟨t149, t150, t151, t154⟩ : S25)]) := ⟨_, rfl⟩
            replace H : (upload_divide.l0 k2 a0 l1 a3 y157 (wrap64 (x11_2 + a3))) = some (r1, r2) := by first | (rw [hy157]; with_reducible exact H) | (have H2_ := (Option.bind_some _ _).symm.trans H; rw [hy157]; with_reducible exact H2_) | (have H2_ := (Option.bind_some _ _).symm.trans H; with_reducible exact H2_) | with_reducible exact H | (rw [hy157]; exact H) | exact H
            have Ny157 := am hy157
            clear hy157
            have H' := am H
            clear H
            obtain ⟨i021, hi021, _, hsz21, _⟩ := info_parts info5
            obtain ⟨A21, hcut21, hA21, hC21⟩ := print_mid_of (P := Try.prog) (Value.int .u8) 0 22 5 .i64 .i64 Try.underlying22 hi021 hsz21 A1 c1 l1 x11_2 (ji14) (of_decide_eq_true az) (by first | omega | exact of_decide_eq_true az) (of_decide_eq_true az) HC1.out
            have HR148 := am (Kd.C_of_reads (h1 := fun _ => rfl) (hA21 _ (Kd.reads_of_C HR1.out)))
            have HC148 := am hC21
            clear hA21 hC21 hi021 hsz21
            go_wp2_with (first | ((with_reducible refine gate_callee (f := 9) rfl ?_); refine goesL_ (some 62) rfl rfl Try.func9 (by kernel_rfl) rfl #[.int .i64 a0, .int .i64 x11_2, .slice A21 ((l1.take ((ji14) : Int).toNat).drop (x11_2 : Int).toNat).length (c1 - x11_2.toNat)] rfl (by (try simp only [List.map_toArray, List.map_cons, List.map_nil]); first | done | (rw [show ((l1.take ((ji14) : Int).toNat).drop (x11_2 : Int).toNat).length = ((ji14).toNat - x11_2.toNat) from (by rw [List.length_drop, List.length_take]; have h_ : ((ji14) : Int) ≤ (l1.length : Int) := of_decide_eq_true az; omega)] <;> rfl) | (simp only [hji14]; rfl) | rfl | (simp only [List.length_drop, List.length_take]; rfl)) ?_; (with_reducible refine (upload_Packet.calls k2 a0 x11_2 _ _ ((l1.take ((ji14) : Int).toNat).drop (x11_2 : Int).toNat) t149 t150 t151 t154 t155 _ ?side1 ?side2 A18.out).mono ?_); (case side1 => exact cz (Kd.C_below HR148.out HB.out)); (case side2 => exact HC148.out); rintro e w22 ⟨v152, rfl, ho0, hb⟩; refine ⟨_, rfl, ?_⟩; have n0_ := am (Kd.S_elder' (sz HO_10.out) (Kd.R_base ho0) hb); have n1_ := am (Kd.R_lower ho0 (below_size (hz HB.out))); have n2_ := am (below_step (hz HB.out) hb); clear HO_10; clear HB; have HO_10 := n0_; have HO153 := n1_; have HB := n2_; clear n0_ n1_ n2_; (try clear hb); (try clear hb2); (try clear hk); (try clear hi); (try clear ho0)) | ((with_reducible refine gate_dst (N := 12) rfl ?_); (try (refine gate_guard (by rfl) ?_; dsimp only)); refine box_event ?hg (N := 12) ?hd (cs := #[.int .i64 0, .int .i64 0, .slice none 0 0, .int .u64 0]) (t := 25) ?hr ?_; (case hd => rfl); (case hg => rfl); (case hr => exact gz); intro gb156 hg w23 hbox hb; have n0_ := am (Kd.S_below (Kd.S_elderB (sz HO_10.out) gb156 (Nat.le_of_eq hg.symm)) hb); have n1_ := am (Kd.R_below (rz HO153.out) hb); have n2_ := am (below_step (hz HB.out) hb); have n3_ := am (hbox); have n4_ := am ((bs hg (hz HB.out) : w.heap.size ≤ gb156)); have n5_ := am ((bs hg (hz HB.out) : w.heap.size ≤ gb156)); clear HO_10; clear HO153; clear HB; have HO_10 := n0_; have HO153 := n1_; have HB := n2_; have BK156 := n3_; have GW156 := n4_; have GE156 := n5_; clear n0_ n1_ n2_ n3_ n4_ n5_; clear hb hbox hg; obtain ⟨hcz24_0, hcz24_1, hcz24_2, hcz24_3⟩ := cs4 BK156.out; obtain ⟨hfz24_0, hfz24_1, hfz24_2, hfz24_3⟩ := fs4 BK156.out; obtain ⟨Ao25, co25, eo25⟩ := Kd.R_slice HO153.out; subst eo25) | ((with_reducible refine gate_store (t := 25) (p := 12) rfl ?_); refine store_event (t := 25) (p := 12) (v := ?vo_w26) (w1 := ((((w23.setCell ⟨gb156, 0, none⟩ (.int .i64 t149)).setCell ⟨gb156, 1, none⟩ (.int .i64 t150)).setCell ⟨gb156, 2, none⟩ (.slice Ao25 t151.length co25)).setCell ⟨gb156, 3, none⟩ (.int .u64 t154))) ?hg ?ho ?hn ?hr ?_; (case ho => rfl); (case hg => rfl); (case hn => rfl); (case hr => exact gz); intro w26 hw; have n0_ : Aside0 (Kd.S k25 25 w26 w.heap.size (fun k_ => some k_ ≠ (.slice Ao25 t151.length co25 : Value).ownBlock ∧ k_ ≠ gb156) u10 x10_2) := ⟨(by rw [hw]; exact (sz (Kd.S_mono (Kd.S_far (p := ⟨gb156, 3, none⟩) (Kd.S_far (p := ⟨gb156, 2, none⟩) (Kd.S_far (p := ⟨gb156, 1, none⟩) (Kd.S_far (p := ⟨gb156, 0, none⟩) (Kd.S_mono HO_10.out (fun k_ hk => (⟨hk, hk.2⟩ : _ ∧ k_ ≠ gb156))) (fun _ hk => hk.2) (.int .i64 t149)) (fun _ hk => hk.2) (.int .i64 t150)) (fun _ hk => hk.2) (.slice Ao25 t151.length co25)) (fun _ hk => hk.2) (.int .u64 t154)) (fun _ hk => ⟨hk.1.1.2, hk.1.2⟩))))⟩; have n1_ : Aside0 (Kd.R (Kd.int .u8) 5 w26 w.heap.size (fun _ => True) (.slice Ao25 t151.length co25) t151) := ⟨(by rw [hw]; exact (rz (Kd.R_mono (rfg4 HO153.out BK156.out) (fun _ hk => trivial))))⟩; have n2_ : Aside0 (w26.heap[gb156]? = some (.cells #[.int .i64 t149, .int .i64 t150, .slice Ao25 t151.length co25, .int .u64 t154] 25 (0, 0))) := ⟨(by rw [hw]; exact (by (with_reducible repeat (first | refine blk_drewN ?_ _ | refine blk_drew ?_ | refine blk_alloc ?_ _)); refine blk_put (cs := #[.int .i64 t149, .int .i64 t150, .slice Ao25 t151.length co25, .int .u64 0]) ?_ 3 _ rfl; (with_reducible repeat (first | refine blk_drewN ?_ _ | refine blk_drew ?_ | refine blk_alloc ?_ _)); refine blk_put (cs := #[.int .i64 t149, .int .i64 t150, .slice none 0 0, .int .u64 0]) ?_ 2 _ rfl; (with_reducible repeat (first | refine blk_drewN ?_ _ | refine blk_drew ?_ | refine blk_alloc ?_ _)); refine blk_put (cs := #[.int .i64 t149, .int .i64 0, .slice none 0 0, .int .u64 0]) ?_ 1 _ rfl; (with_reducible repeat (first | refine blk_drewN ?_ _ | refine blk_drew ?_ | refine blk_alloc ?_ _)); refine blk_put (cs := #[.int .i64 0, .int .i64 0, .slice none 0 0, .int .u64 0]) ?_ 0 _ rfl; (with_reducible repeat (first | refine blk_drewN ?_ _ | refine blk_drew ?_ | refine blk_alloc ?_ _)); exact BK156.out))⟩; have n3_ : Aside0 (Below w.heap.size w w26) := ⟨(by rw [hw]; exact (hz1 HB.out GE156.out))⟩; clear hw; clear HO_10; clear HO153; clear BK156; clear HB; have HO_10 := n0_; have HO153 := n1_; have BK156 := n2_; have HB := n3_; clear n0_ n1_ n2_ n3_; obtain ⟨hcz27_0, hcz27_1, hcz27_2, hcz27_3⟩ := cs4 BK156.out; obtain ⟨hfz27_0, hfz27_1, hfz27_2, hfz27_3⟩ := fs4 BK156.out) | ((with_reducible refine gate_builtin (b := .append) (xs := #[.tmp 68, .tmp 70]) rfl ?_); (try (refine gate_guard (by rfl) ?_; dsimp only)); at_builtin; refine Kd.S_append k25 (w0 := w) w.heap.size rfl (.tmp 68) (.tmp 70) 30 25 (.agg #[(.int .i64 0), (.int .i64 0), (.slice none 0 0), (.int .u64 0)]) 48 rfl Try.underlying30 info25 rfl (by decide) (by omega) u10 x10_2 (⟨t149, t150, t151, t154⟩ : S25) [.int .i64 t149, .int .i64 t150, .slice Ao25 t151.length co25, .int .u64 t154] (fun k_ => k_ ≠ gb156) (fun k_ => some k_ = (.slice Ao25 t151.length co25 : Value).ownBlock) rfl rfl ?aP (fun k_ hk_ => ((Kd.R_mono (ok' := fun k_ => ((fun k_ => k_ ≠ gb156)) k_ ∧ some k_ ≠ (u10 : Value).ownBlock) (Kd.R_types (Kd.R_apart' (HO153.out) (Kd.S_typed HO_10.out) (by decide)) BK156.out (by decide)) (fun k_ hk => ⟨hk.2, hk.1.2⟩))).1 k_ hk_.symm) ?aF ?aO ?aB ?aS ?aL ?_; (case aP => exact k25_mkM _ _ _ (⟨t149, t150, t151, t154⟩ : S25) (Kd.R_mono (Kd.R_tight rfl (Kd.R_mono (ok' := fun k_ => ((fun k_ => k_ ≠ gb156)) k_ ∧ some k_ ≠ (u10 : Value).ownBlock) (Kd.R_types (Kd.R_apart' (HO153.out) (Kd.S_typed HO_10.out) (by decide)) BK156.out (by decide)) (fun k_ hk => ⟨hk.2, hk.1.2⟩))) (fun _ h_ => h_))); (case aB => exact (hz1 HB.out GE156.out)); (case aF => exact (fun k_ hk => Kd.freshB (g := gb156) (o := .cells #[.int .i64 t149, .int .i64 t150, .slice Ao25 t151.length co25, .int .u64 t154] 25 (0, 0)) (bz BK156.out) k_ hk)); (case aO => exact (sz (Kd.S_mono HO_10.out (fun k_ hk => ⟨hk.2, fun e_ => hk.1 e_⟩)))); (case aS => exact (below_size (hz1 HB.out GE156.out))); (case aL => have := LMc20.out; omega); intro v158 w28 ho hb hg hat; rw [← Ny157.out] at ho; have n0_ := am (blk_grown (bz BK156.out) hg (Kd.S_away HO_10.out (fun _ hk => hk.2))); have n1_ := am (hb); have n2_ := am (ho); clear BK156; clear HB; clear HO_10; clear HO153; have BK156 := n0_; have HB := n1_; have HO159 := n2_; clear n0_ n1_ n2_; clear ho hb hg hat))
            go_roundg k2
            case measure => have := HJ4.out; have := HK2.out; omega
            case rel => exact ⟨(y157), (wrap64 (x11_2 + a3)), (by first | rfl | (simp; done) | (simp [*]; done)), H', ⟨by have := HJ4.out; have := HK2.out; omega⟩, ⟨by (with_reducible repeat (first | apply Kd.S_alloc | apply Kd.S_drewN | apply Kd.S_drew)); exact Kd.S_mono HO159.out (fun _ hk => trivial)⟩, ⟨hz1 HB.out GE156.out⟩⟩
           ·
            rw [if_neg c20] at H
            exact absurd H (by simp)
          ·
           rw [if_neg c19] at H
           exact absurd H (by simp)
         ·
          rw [if_neg c17] at H
          exact absurd H (by simp)
        ·
         rw [if_neg c16] at H
         exact absurd H (by simp)
       ·
        rw [if_neg c15] at H
        exact absurd H (by simp)
      ·
       rw [if_neg c13] at H
       have c13b0 : decide (x11_2 < (l1.length : Int)) = false := decide_eq_false c13
       clear c13
       simp only [Option.some.injEq, Prod.mk.injEq] at H
       obtain ⟨rfl, rfl⟩ := H
       go_wp2
       go_ret2
       exact ⟨_, by first | rfl | (simp [errW_none, errW_some] <;> rfl) | (simp [*, errW_none, errW_some] <;> rfl), by (with_reducible repeat (first | apply Kd.S_alloc | apply Kd.S_drewN | apply Kd.S_drew)); exact HO_10.out, hz HB.out⟩

end Go.Proofs.Ytglpnbcockancaa.Q
