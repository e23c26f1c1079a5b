/- Made by wip/myprint.py of this session (it drives the kit's printer): what the calls of the Go functions come to, as plain Lean functions, and the row of a law over them; without conditions. -/
import Derived.Test.YteeggfnailpcpaaDoorQx0
namespace Go.Proofs.YteeggfnailpcpaaDoor.Q
open Go.RowKit Go.Proofs.YteeggfnailpcpaaDoorW.PrintWords Go.Proofs.YteeggfnailpcpaaDoorW.PrintLast Go.Proofs.YteeggfnailpcpaaDoorW.PrintMore
attribute [local go_sem] max2_int min2_int max_two min_two max_three min_three max_four min_four   -- for this text's walks alone
set_option linter.unusedVariables false
set_option linter.unusedSimpArgs false

/-! ### examboardref11_extend: function 65 -/
def examboardref11_extend.f (a0 : Int) (a1 : Int) : Option (Int) := some (IntKind.u64.wrap ((Go.bits .xor .u64 a0 (IntKind.u64.wrap (a1))) * 1099511628211))
set_option maxHeartbeats 8000000 in
set_option maxRecDepth 100000 in
theorem examboardref11_extend.calls (a0 : Int) (a1 : Int) (r : Int) (w : World) (h : examboardref11_extend.f a0 a1 = some r) :
  Calls Tryd.prog 65 #[.int .u64 a0, .int .u8 a1] w fun e w' => e = .returned (.int .u64 r) ∧ Drawn0 w w' := by
 have H : (some (IntKind.u64.wrap ((Go.bits .xor .u64 a0 (IntKind.u64.wrap (a1))) * 1099511628211))) = some r := h
 clear h
 obtain rfl := Option.some.inj H
 go_enter Tryd.func65, Tryd.ntmps65
 go_wp2
 go_ret
 exact ⟨by first | rfl | (simp; done) | (simp [*]; done), by repeat (first | exact Drawn0.refl _ | apply Drawn0.step)⟩

/-! ### examboardref11_Add: function 51 -/
def examboardref11_Add.l0 : Nat → Int → List Int → Int → Option (Int)
 | 0, _, _, _ => none
 | k + 1, x0, x1, x5 => if x5 < (x1.length : Int) then (if 0 ≤ x5 then ((examboardref11_extend.f x0 (rd x1 x5)).bind fun t461 => (examboardref11_Add.l0 k t461 x1 (wrap64 (x5 + 1)))) else (none)) else (some x0)
def examboardref11_Add.f (k : Nat) (a0 : Int) (l1 : List Int) : Option (Int) := examboardref11_Add.l0 k a0 l1 0
theorem examboardref11_Add.mono_l : ∀ k, (∀ y0 y1 y2, LeO (examboardref11_Add.l0 k y0 y1 y2) (examboardref11_Add.l0 (k + 1) y0 y1 y2))
 | 0 => fun _ _ _ r h => by simp [examboardref11_Add.l0] at h
 | k + 1 => by
  have ih0 := examboardref11_Add.mono_l k
  ·
   intro y0 y1 y2
   unfold examboardref11_Add.l0
   repeat' first
   | (with_reducible exact ih0 _ _ _)
   | (with_reducible exact LeO.refl _)
   | (with_reducible exact LeO.none _)
   | (with_reducible refine LeO.ite ?_ ?_)
   | (with_reducible refine LeO.bind ?_ (fun _ => ?_))
   | exact ih0 _ _ _
   | exact LeO.none _
   | refine LeO.ite ?_ ?_
   | refine LeO.bind ?_ (fun _ => ?_)
theorem examboardref11_Add.mono : ∀ a0 a1 k, LeO (examboardref11_Add.f k a0 a1) (examboardref11_Add.f (k + 1) a0 a1) := by
 intro a0 a1 k
 have ih0 := examboardref11_Add.mono_l k
 unfold examboardref11_Add.f
 repeat' first
   | (with_reducible exact ih0 _ _ _)
   | (with_reducible exact LeO.refl _)
   | (with_reducible exact LeO.none _)
   | (with_reducible refine LeO.ite ?_ ?_)
   | (with_reducible refine LeO.bind ?_ (fun _ => ?_))
   | exact ih0 _ _ _
   | exact LeO.none _
   | refine LeO.ite ?_ ?_
   | refine LeO.bind ?_ (fun _ => ?_)
set_option maxHeartbeats 8000000 in
set_option maxRecDepth 100000 in
theorem examboardref11_Add.calls (k : Nat) (a0 : Int) (A1 : Option Addr) (c1 : Nat) (l1 : List Int) (r : Int) (w : World) (hr1 : Kd.C (Kd.int .u8) w A1 l1.length l1) (hc1 : l1.length ≤ c1) (h : examboardref11_Add.f k a0 l1 = some r) :
  Calls Tryd.prog 51 #[.int .u64 a0, .slice A1 l1.length c1] w fun e w' => e = .returned (.int .u64 r) ∧ Drawn0 w w' := by
 have HR1 := am hr1
 have HC1 := am hc1
 clear hr1 hc1
 have H : (examboardref11_Add.l0 k a0 l1 0) = some r := h
 clear h
 have H' := am H
 clear H
 go_enter Tryd.func51, Tryd.ntmps51
 go_wp2
 go_loopg [0, 5] k (fun kq v0 v5 w' => ∃ (x0_1 : Int) (x5_1 : Int), v0 = .int .u64 x0_1 ∧ v5 = .int .i64 x5_1 ∧ Aside0 (examboardref11_Add.l0 kq x0_1 l1 x5_1 = some r) ∧ Aside0 (kq ≤ k) ∧ Drawn0 w w')
 case atStart => exact ⟨(a0), (0), rfz, rfz, H', ⟨Nat.le_refl _⟩, by repeat (first | exact Drawn0.refl _ | apply Drawn0.step)⟩
 case round =>
  clear H'
  obtain ⟨x0_1, x5_1, rfl, rfl, HA, HK1, ⟨m1, rfl⟩⟩ := hrel
  cases gk with
  | zero => exact absurd HA.out (by simp [examboardref11_Add.l0])
  | succ k1 =>
   have H := HA.out
   clear HA
   simp only [examboardref11_Add.l0] at H
   by_cases c3 : x5_1 < (l1.length : Int)
   ·
    rw [if_pos c3] at H
    have c3b0 : decide (x5_1 < (l1.length : Int)) = true := decide_eq_true c3
    clear c3
    replace H := it_ H
    obtain ⟨c4, H⟩ := H
    have c4b0 : decide (0 ≤ x5_1) = true := decide_eq_true c4
    clear c4
    replace H := Option.bind_eq_some_iff.mp H
    obtain ⟨t461, A50, H⟩ := H
    try dsimp only at H
    have A5 := am A50
    clear A50
    have H' := am H
    clear H
    have p460 : 0 ≤ (x5_1 : Int) := of_decide_eq_true az
    have q460 : x5_1 < (l1.length : Int) := of_decide_eq_true az
    obtain ⟨ad460, e460, hx460_0⟩ := Kd.at_int HR1.out x5_1 p460 q460
    cases e460
    replace p460 := eq_true p460
    replace q460 := eq_true q460
    go_wp2_with (first | ((with_reducible refine gate_callee (f := 65) rfl ?_); refine goesL_ (some 17) rfl rfl Tryd.func65 (by kernel_rfl) rfl #[.int .u64 x0_1, .int .u8 (rd l1 x5_1)] rfl lz ?_; (with_reducible refine (examboardref11_extend.calls x0_1 (rd l1 x5_1) t461 _ A5.out).mono ?_); rintro e w' ⟨rfl, ⟨nd, rfl⟩⟩; refine ⟨_, rfl, ?_⟩))
    go_roundg k1
    case measure => have := HK1.out; omega
    case rel => exact ⟨(t461), (wrap64 (x5_1 + 1)), rfz, rfz, H', ⟨by have := HK1.out; omega⟩, by repeat (first | exact Drawn0.refl _ | apply Drawn0.step)⟩
   ·
    rw [if_neg c3] at H
    have c3b0 : decide (x5_1 < (l1.length : Int)) = false := decide_eq_false c3
    clear c3
    obtain rfl := Option.some.inj H
    go_wp2
    go_ret
    exact ⟨by first | rfl | (simp; done) | (simp [*]; done), by repeat (first | exact Drawn0.refl _ | apply Drawn0.step)⟩

/-! ### examboardref11_Of: function 47 -/
def examboardref11_Of.f (k : Nat) (l0 : List Int) : Option (Int) := (examboardref11_Add.f k 14695981039346656037 l0).bind fun t462 => (some t462)
theorem examboardref11_Of.mono : ∀ a0 k, LeO (examboardref11_Of.f k a0) (examboardref11_Of.f (k + 1) a0) := by
 intro a0 k
 unfold examboardref11_Of.f
 repeat' first
   | (with_reducible exact examboardref11_Add.mono _ _ _)
   | (with_reducible exact LeO.refl _)
   | (with_reducible exact LeO.none _)
   | (with_reducible refine LeO.ite ?_ ?_)
   | (with_reducible refine LeO.bind ?_ (fun _ => ?_))
   | exact examboardref11_Add.mono _ _ _
   | exact LeO.none _
   | refine LeO.ite ?_ ?_
   | refine LeO.bind ?_ (fun _ => ?_)
set_option maxHeartbeats 8000000 in
set_option maxRecDepth 100000 in
theorem examboardref11_Of.calls (k : Nat) (A0 : Option Addr) (c0 : Nat) (l0 : List Int) (r : Int) (w : World) (hr0 : Kd.C (Kd.int .u8) w A0 l0.length l0) (hc0 : l0.length ≤ c0) (h : examboardref11_Of.f k l0 = some r) :
  Calls Tryd.prog 47 #[.slice A0 l0.length c0] w fun e w' => e = .returned (.int .u64 r) ∧ Drawn0 w w' := by
 have HR0 := am hr0
 have HC0 := am hc0
 clear hr0 hc0
 have H : ((examboardref11_Add.f k 14695981039346656037 l0).bind fun t462 => (some t462)) = some r := h
 clear h
 replace H := Option.bind_eq_some_iff.mp H
 obtain ⟨t462, A20, H⟩ := H
 try dsimp only at H
 have A2 := am A20
 clear A20
 obtain rfl := Option.some.inj H
 go_enter Tryd.func47, Tryd.ntmps47
 go_wp2_with (first | ((with_reducible refine gate_callee (f := 51) rfl ?_); refine goesL_ (some 4) rfl rfl Tryd.func51 (by kernel_rfl) rfl #[.int .u64 14695981039346656037, .slice A0 l0.length c0] rfl lz ?_; (with_reducible refine (examboardref11_Add.calls k 14695981039346656037 _ _ l0 t462 _ ?side1 ?side2 A2.out).mono ?_); (case side1 => exact cz HR0.out); (case side2 => exact HC0.out); rintro e w' ⟨rfl, ⟨nd, rfl⟩⟩; refine ⟨_, rfl, ?_⟩))
 go_ret
 exact ⟨by first | rfl | (simp; done) | (simp [*]; done), by repeat (first | exact Drawn0.refl _ | apply Drawn0.step)⟩

/-! ### examboardref11_Number: function 52 -/
def examboardref11_Number.l0 : Nat → Int → Int → Int → Option (Int)
 | 0, _, _, _ => none
 | k + 1, x0, x1, x5 => if x5 ≥ 0 then (if 0 ≤ (IntKind.u64.wrap (8 * (IntKind.u64.wrap (x5)))) then ((examboardref11_extend.f x0 ((shr .u64 x1 (IntKind.u64.wrap (8 * (IntKind.u64.wrap (x5))))) % 256)).bind fun t463 => (examboardref11_Number.l0 k t463 x1 (wrap64 (x5 - 1)))) else (none)) else (some x0)
def examboardref11_Number.f (k : Nat) (a0 : Int) (a1 : Int) : Option (Int) := examboardref11_Number.l0 k a0 a1 7
theorem examboardref11_Number.mono_l : ∀ k, (∀ y0 y1 y2, LeO (examboardref11_Number.l0 k y0 y1 y2) (examboardref11_Number.l0 (k + 1) y0 y1 y2))
 | 0 => fun _ _ _ r h => by simp [examboardref11_Number.l0] at h
 | k + 1 => by
  have ih0 := examboardref11_Number.mono_l k
  ·
   intro y0 y1 y2
   unfold examboardref11_Number.l0
   repeat' first
   | (with_reducible exact ih0 _ _ _)
   | (with_reducible exact LeO.refl _)
   | (with_reducible exact LeO.none _)
   | (with_reducible refine LeO.ite ?_ ?_)
   | (with_reducible refine LeO.bind ?_ (fun _ => ?_))
   | exact ih0 _ _ _
   | exact LeO.none _
   | refine LeO.ite ?_ ?_
   | refine LeO.bind ?_ (fun _ => ?_)
theorem examboardref11_Number.mono : ∀ a0 a1 k, LeO (examboardref11_Number.f k a0 a1) (examboardref11_Number.f (k + 1) a0 a1) := by
 intro a0 a1 k
 have ih0 := examboardref11_Number.mono_l k
 unfold examboardref11_Number.f
 repeat' first
   | (with_reducible exact ih0 _ _ _)
   | (with_reducible exact LeO.refl _)
   | (with_reducible exact LeO.none _)
   | (with_reducible refine LeO.ite ?_ ?_)
   | (with_reducible refine LeO.bind ?_ (fun _ => ?_))
   | exact ih0 _ _ _
   | exact LeO.none _
   | refine LeO.ite ?_ ?_
   | refine LeO.bind ?_ (fun _ => ?_)
set_option maxHeartbeats 8000000 in
set_option maxRecDepth 100000 in
theorem examboardref11_Number.calls (k : Nat) (a0 : Int) (a1 : Int) (r : Int) (w : World) (h : examboardref11_Number.f k a0 a1 = some r) :
  Calls Tryd.prog 52 #[.int .u64 a0, .int .u64 a1] w fun e w' => e = .returned (.int .u64 r) ∧ Drawn0 w w' := by
 have H : (examboardref11_Number.l0 k a0 a1 7) = some r := h
 clear h
 have H' := am H
 clear H
 go_enter Tryd.func52, Tryd.ntmps52
 go_wp2
 go_loopg [0, 5] k (fun kq v0 v5 w' => ∃ (x0_1 : Int) (x5_1 : Int), v0 = .int .u64 x0_1 ∧ v5 = .int .i64 x5_1 ∧ Aside0 (examboardref11_Number.l0 kq x0_1 a1 x5_1 = some r) ∧ Aside0 (kq ≤ k) ∧ Drawn0 w w')
 case atStart => exact ⟨(a0), (7), rfz, rfz, H', ⟨Nat.le_refl _⟩, by repeat (first | exact Drawn0.refl _ | apply Drawn0.step)⟩
 case round =>
  clear H'
  obtain ⟨x0_1, x5_1, rfl, rfl, HA, HK1, ⟨m1, rfl⟩⟩ := hrel
  cases gk with
  | zero => exact absurd HA.out (by simp [examboardref11_Number.l0])
  | succ k1 =>
   have H := HA.out
   clear HA
   simp only [examboardref11_Number.l0] at H
   by_cases c3 : x5_1 ≥ 0
   ·
    rw [if_pos c3] at H
    have c3b0 : decide (0 ≤ x5_1) = true := decide_eq_true c3
    clear c3
    obtain ⟨ji4, hji4⟩ : ∃ j_ : Int, (IntKind.u64.wrap (8 * (IntKind.u64.wrap (x5_1)))) = j_ := ⟨_, rfl⟩
    replace H : (if 0 ≤ (ji4) then ((examboardref11_extend.f x0_1 ((shr .u64 a1 (ji4)) % 256)).bind fun t463 => (examboardref11_Number.l0 k1 t463 a1 (wrap64 (x5_1 - 1)))) else (none)) = some r := by first | (rw [hji4] at H; exact H) | (simp only [hji4] at H ⊢; exact H)
    replace H := it_ H
    obtain ⟨c5, H⟩ := H
    have c5b0 := eq_true c5
    have c5b1 : decide (0 ≤ (ji4)) = true := decide_eq_true c5
    clear c5
    obtain ⟨ji6, hji6⟩ : ∃ j_ : Int, (shr .u64 a1 (ji4)) = j_ := ⟨_, rfl⟩
    replace H : ((examboardref11_extend.f x0_1 ((ji6) % 256)).bind fun t463 => (examboardref11_Number.l0 k1 t463 a1 (wrap64 (x5_1 - 1)))) = some r := by first | (rw [hji6] at H; exact H) | (simp only [hji6] at H ⊢; exact H)
    have hji6_ : (a1 / 2 ^ min (ji4).toNat 64) = ji6 := hji6
    have hji6z : (ji4) ≤ 64 → (a1 / 2 ^ (ji4).toNat) = ji6 := shr_small hji6
    replace H := Option.bind_eq_some_iff.mp H
    obtain ⟨t463, A70, H⟩ := H
    try dsimp only at H
    have A7 := am A70
    clear A70
    have H' := am H
    clear H
    go_wp2_with (first | ((with_reducible refine gate_callee (f := 65) rfl ?_); refine goesL_ (some 17) rfl rfl Tryd.func65 (by kernel_rfl) rfl #[.int .u64 x0_1, .int .u8 ((ji6) % 256)] rfl (by (try simp only [List.map_toArray, List.map_cons, List.map_nil]); first | done | (simp only [hji6]; rfl) | rfl | (simp only [List.length_drop, List.length_take]; rfl)) ?_; (with_reducible refine (examboardref11_extend.calls x0_1 ((ji6) % 256) t463 _ A7.out).mono ?_); rintro e w' ⟨rfl, ⟨nd, rfl⟩⟩; refine ⟨_, rfl, ?_⟩))
    go_roundg k1
    case measure => have := HK1.out; omega
    case rel => exact ⟨(t463), (wrap64 (x5_1 - 1)), rfz, rfz, H', ⟨by have := HK1.out; omega⟩, by repeat (first | exact Drawn0.refl _ | apply Drawn0.step)⟩
   ·
    rw [if_neg c3] at H
    have c3b0 : decide (0 ≤ x5_1) = false := decide_eq_false c3
    clear c3
    obtain rfl := Option.some.inj H
    go_wp2
    go_ret
    exact ⟨by first | rfl | (simp; done) | (simp [*]; done), by repeat (first | exact Drawn0.refl _ | apply Drawn0.step)⟩

/-! ### examboardref11_Chain: function 41 -/
def examboardref11_Chain.f (k : Nat) (a0 : Int) (l1 : List Int) : Option (Int) := (examboardref11_Number.f k 14695981039346656037 a0).bind fun t464 => ((examboardref11_Add.f k t464 l1).bind fun t465 => (some t465))
theorem examboardref11_Chain.mono : ∀ a0 a1 k, LeO (examboardref11_Chain.f k a0 a1) (examboardref11_Chain.f (k + 1) a0 a1) := by
 intro a0 a1 k
 unfold examboardref11_Chain.f
 repeat' first
   | (with_reducible exact examboardref11_Add.mono _ _ _)
   | (with_reducible exact examboardref11_Number.mono _ _ _)
   | (with_reducible exact LeO.refl _)
   | (with_reducible exact LeO.none _)
   | (with_reducible refine LeO.ite ?_ ?_)
   | (with_reducible refine LeO.bind ?_ (fun _ => ?_))
   | exact examboardref11_Add.mono _ _ _
   | exact examboardref11_Number.mono _ _ _
   | exact LeO.none _
   | refine LeO.ite ?_ ?_
   | refine LeO.bind ?_ (fun _ => ?_)
set_option maxHeartbeats 8000000 in
set_option maxRecDepth 100000 in
theorem examboardref11_Chain.calls (k : Nat) (a0 : Int) (A1 : Option Addr) (c1 : Nat) (l1 : List Int) (r : Int) (w : World) (hr1 : Kd.C (Kd.int .u8) w A1 l1.length l1) (hc1 : l1.length ≤ c1) (h : examboardref11_Chain.f k a0 l1 = some r) :
  Calls Tryd.prog 41 #[.int .u64 a0, .slice A1 l1.length c1] w fun e w' => e = .returned (.int .u64 r) ∧ Drawn0 w w' := by
 have HR1 := am hr1
 have HC1 := am hc1
 clear hr1 hc1
 have H : ((examboardref11_Number.f k 14695981039346656037 a0).bind fun t464 => ((examboardref11_Add.f k t464 l1).bind fun t465 => (some t465))) = some r := h
 clear h
 replace H := Option.bind_eq_some_iff.mp H
 obtain ⟨t464, A30, H⟩ := H
 try dsimp only at H
 have A3 := am A30
 clear A30
 replace H := Option.bind_eq_some_iff.mp H
 obtain ⟨t465, A40, H⟩ := H
 try dsimp only at H
 have A4 := am A40
 clear A40
 obtain rfl := Option.some.inj H
 go_enter Tryd.func41, Tryd.ntmps41
 go_wp2_with (first | ((with_reducible refine gate_callee (f := 52) rfl ?_); refine goesL_ (some 6) rfl rfl Tryd.func52 (by kernel_rfl) rfl #[.int .u64 14695981039346656037, .int .u64 a0] rfl lz ?_; (with_reducible refine (examboardref11_Number.calls k 14695981039346656037 a0 t464 _ A3.out).mono ?_); rintro e w' ⟨rfl, ⟨nd, rfl⟩⟩; refine ⟨_, rfl, ?_⟩) | ((with_reducible refine gate_callee (f := 51) rfl ?_); refine goesL_ (some 8) rfl rfl Tryd.func51 (by kernel_rfl) rfl #[.int .u64 t464, .slice A1 l1.length c1] rfl lz ?_; (with_reducible refine (examboardref11_Add.calls k t464 _ _ l1 t465 _ ?side1 ?side2 A4.out).mono ?_); (case side1 => exact cz HR1.out); (case side2 => exact HC1.out); rintro e w' ⟨rfl, ⟨nd, rfl⟩⟩; refine ⟨_, rfl, ?_⟩))
 go_ret
 exact ⟨by first | rfl | (simp; done) | (simp [*]; done), by repeat (first | exact Drawn0.refl _ | apply Drawn0.step)⟩

/-! ### examboardref49_number: function 62 -/
def examboardref49_number.l0 : Nat → List Int → Int → Int → Int → Option (Int)
 | 0, _, _, _, _ => none
 | k + 1, x0, x1, x5, x6 => if x6 < x1 then (if 0 ≤ x6 then (if x6 < (x0.length : Int) then (examboardref49_number.l0 k x0 x1 (IntKind.u64.wrap ((IntKind.u64.wrap (x5 * 256)) + (IntKind.u64.wrap (rd x0 x6)))) (wrap64 (x6 + 1))) else (none)) else (none)) else (some x5)
def examboardref49_number.f (k : Nat) (l0 : List Int) (a1 : Int) : Option (Int) := examboardref49_number.l0 k l0 a1 0 0
theorem examboardref49_number.mono_l : ∀ k, (∀ y0 y1 y2 y3, LeO (examboardref49_number.l0 k y0 y1 y2 y3) (examboardref49_number.l0 (k + 1) y0 y1 y2 y3))
 | 0 => fun _ _ _ _ r h => by simp [examboardref49_number.l0] at h
 | k + 1 => by
  have ih0 := examboardref49_number.mono_l k
  ·
   intro y0 y1 y2 y3
   unfold examboardref49_number.l0
   repeat' first
   | (with_reducible exact ih0 _ _ _ _)
   | (with_reducible exact LeO.refl _)
   | (with_reducible exact LeO.none _)
   | (with_reducible refine LeO.ite ?_ ?_)
   | (with_reducible refine LeO.bind ?_ (fun _ => ?_))
   | exact ih0 _ _ _ _
   | exact LeO.none _
   | refine LeO.ite ?_ ?_
   | refine LeO.bind ?_ (fun _ => ?_)
theorem examboardref49_number.mono : ∀ a0 a1 k, LeO (examboardref49_number.f k a0 a1) (examboardref49_number.f (k + 1) a0 a1) := by
 intro a0 a1 k
 have ih0 := examboardref49_number.mono_l k
 unfold examboardref49_number.f
 repeat' first
   | (with_reducible exact ih0 _ _ _ _)
   | (with_reducible exact LeO.refl _)
   | (with_reducible exact LeO.none _)
   | (with_reducible refine LeO.ite ?_ ?_)
   | (with_reducible refine LeO.bind ?_ (fun _ => ?_))
   | exact ih0 _ _ _ _
   | exact LeO.none _
   | refine LeO.ite ?_ ?_
   | refine LeO.bind ?_ (fun _ => ?_)
set_option maxHeartbeats 8000000 in
set_option maxRecDepth 100000 in
theorem examboardref49_number.calls (k : Nat) (A0 : Option Addr) (c0 : Nat) (l0 : List Int) (a1 : Int) (r : Int) (w : World) (hr0 : Kd.C (Kd.int .u8) w A0 l0.length l0) (hc0 : l0.length ≤ c0) (h : examboardref49_number.f k l0 a1 = some r) :
  Calls Tryd.prog 62 #[.slice A0 l0.length c0, .int .i64 a1] w fun e w' => e = .returned (.int .u64 r) ∧ Drawn0 w w' := by
 have HR0 := am hr0
 have HC0 := am hc0
 clear hr0 hc0
 have H : (examboardref49_number.l0 k l0 a1 0 0) = some r := h
 clear h
 have H' := am H
 clear H
 go_enter Tryd.func62, Tryd.ntmps62
 go_wp2
 go_loopg [5, 6] k (fun kq v5 v6 w' => ∃ (x5_1 : Int) (x6_1 : Int), v5 = .int .u64 x5_1 ∧ v6 = .int .i64 x6_1 ∧ Aside0 (examboardref49_number.l0 kq l0 a1 x5_1 x6_1 = some r) ∧ Aside0 (kq ≤ k) ∧ Drawn0 w w')
 case atStart => exact ⟨(0), (0), rfz, rfz, H', ⟨Nat.le_refl _⟩, by repeat (first | exact Drawn0.refl _ | apply Drawn0.step)⟩
 case round =>
  clear H'
  obtain ⟨x5_1, x6_1, rfl, rfl, HA, HK1, ⟨m1, rfl⟩⟩ := hrel
  cases gk with
  | zero => exact absurd HA.out (by simp [examboardref49_number.l0])
  | succ k1 =>
   have H := HA.out
   clear HA
   simp only [examboardref49_number.l0] at H
   by_cases c3 : x6_1 < a1
   ·
    rw [if_pos c3] at H
    have c3b0 : decide (x6_1 < a1) = true := decide_eq_true c3
    clear c3
    replace H := it_ H
    obtain ⟨c4, H⟩ := H
    have c4b0 : decide (0 ≤ x6_1) = true := decide_eq_true c4
    clear c4
    replace H := it_ H
    obtain ⟨c5, H⟩ := H
    have c5b0 : decide (x6_1 < (l0.length : Int)) = true := decide_eq_true c5
    clear c5
    have H' := am H
    clear H
    have p466 : 0 ≤ (x6_1 : Int) := of_decide_eq_true az
    have q466 : x6_1 < (l0.length : Int) := of_decide_eq_true az
    obtain ⟨ad466, e466, hx466_0⟩ := Kd.at_int HR0.out x6_1 p466 q466
    cases e466
    replace p466 := eq_true p466
    replace q466 := eq_true q466
    go_wp2
    go_roundg k1
    case measure => have := HK1.out; omega
    case rel => exact ⟨(IntKind.u64.wrap ((IntKind.u64.wrap (x5_1 * 256)) + (IntKind.u64.wrap (rd l0 x6_1)))), (wrap64 (x6_1 + 1)), rfz, rfz, H', ⟨by have := HK1.out; omega⟩, by repeat (first | exact Drawn0.refl _ | apply Drawn0.step)⟩
   ·
    rw [if_neg c3] at H
    have c3b0 : decide (x6_1 < a1) = false := decide_eq_false c3
    clear c3
    obtain rfl := Option.some.inj H
    go_wp2
    go_ret
    exact ⟨by first | rfl | (simp; done) | (simp [*]; done), by repeat (first | exact Drawn0.refl _ | apply Drawn0.step)⟩

/-! ### examboardref10_need: function 76 -/
def examboardref10_need.f (l0 : List Int) (a1 : Int) (a2 : Int) : Option (Int) := if a2 ≤ (wrap64 ((mn (l0.length : Int) 1048576) - a1)) then (some 0) else (if (l0.length : Int) > 1048576 then (some 5) else (some 4))
set_option maxHeartbeats 8000000 in
set_option maxRecDepth 100000 in
theorem examboardref10_need.calls (A0 : Option Addr) (c0 : Nat) (l0 : List Int) (a1 : Int) (a2 : Int) (r : Int) (w : World) (hr0 : Kd.C (Kd.int .u8) w A0 l0.length l0) (hc0 : l0.length ≤ c0) (h : examboardref10_need.f l0 a1 a2 = some r) :
  Calls Tryd.prog 76 #[.slice A0 l0.length c0, .int .i64 a1, .int .i64 a2] w fun e w' => e = .returned (.int .i64 r) ∧ Below w.heap.size w w' := by
 have HR0 := am hr0
 have HC0 := am hc0
 clear hr0 hc0
 have HB := am (Below.refl w.heap.size w)
 have H : (if a2 ≤ (wrap64 ((mn (l0.length : Int) 1048576) - a1)) then (some 0) else (if (l0.length : Int) > 1048576 then (some 5) else (some 4))) = some r := h
 clear h
 obtain ⟨ji4, hji4⟩ : ∃ j_ : Int, (mn (l0.length : Int) 1048576) = j_ := ⟨_, rfl⟩
 replace H : (if a2 ≤ (wrap64 ((ji4) - a1)) then (some 0) else (if (l0.length : Int) > 1048576 then (some 5) else (some 4))) = some r := by first | (rw [hji4] at H; exact H) | (simp only [hji4] at H ⊢; exact H)
 (try (have hji4h : ji4 ≤ 1048576 := by (rw [← hji4]; unfold mn; (repeat' split) <;> omega)))
 (try (have hji4g : ji4 ≤ 64 := by omega))
 (try (have hji4l : 0 ≤ ji4 := by (rw [← hji4]; unfold mn; (repeat' split) <;> omega)))
 (try (have hji4m : 0 ≤ ji4 := by omega))
 have hji4_ : (if 1048576 < (l0.length : Int) then 1048576 else (l0.length : Int)) = ji4 := hji4
 by_cases c5 : a2 ≤ (wrap64 ((ji4) - a1))
 ·
  rw [if_pos c5] at H
  have c5b0 : decide (a2 ≤ (wrap64 ((ji4) - a1))) = true := decide_eq_true c5
  clear c5
  obtain rfl := Option.some.inj H
  go_enter Tryd.func76, Tryd.ntmps76
  go_wp2
  go_ret
  exact ⟨by first | rfl | (simp [errW_none, errW_some] <;> rfl) | (simp only [← hji4]; first | rfl | (simp [errW_none, errW_some] <;> rfl)) | (simp [*, errW_none, errW_some] <;> rfl), hz HB.out⟩
 ·
  rw [if_neg c5] at H
  have c5b0 : decide (a2 ≤ (wrap64 ((ji4) - a1))) = false := decide_eq_false c5
  clear c5
  by_cases c6 : (l0.length : Int) > 1048576
  ·
   rw [if_pos c6] at H
   have c6b0 : decide (1048576 < (l0.length : Int)) = true := decide_eq_true c6
   have c6b1 : decide (1048576 < l0.length) = true := decide_eq_true (by omega)
   clear c6
   obtain rfl := Option.some.inj H
   go_enter Tryd.func76, Tryd.ntmps76
   go_wp2
   go_ret
   exact ⟨by first | rfl | (simp [errW_none, errW_some] <;> rfl) | (simp only [← hji4]; first | rfl | (simp [errW_none, errW_some] <;> rfl)) | (simp [*, errW_none, errW_some] <;> rfl), hz HB.out⟩
  ·
   rw [if_neg c6] at H
   have c6b0 : decide (1048576 < (l0.length : Int)) = false := decide_eq_false c6
   have c6b1 : decide (1048576 < l0.length) = false := decide_eq_false (by omega)
   clear c6
   obtain rfl := Option.some.inj H
   go_enter Tryd.func76, Tryd.ntmps76
   go_wp2
   go_ret
   exact ⟨by first | rfl | (simp [errW_none, errW_some] <;> rfl) | (simp only [← hji4]; first | rfl | (simp [errW_none, errW_some] <;> rfl)) | (simp [*, errW_none, errW_some] <;> rfl), hz HB.out⟩

/-! ### examboardref10_number: function 75 -/
mutual
def examboardref10_number.l0 : Nat → List Int → Int → Int → Int → Option (Int × Int × Int)
 | 0, _, _, _, _ => none
 | k + 1, x0, x1, x7, x8 => if x8 < 10 then ((examboardref10_need.f x0 x1 1).bind fun t467 => (if t467 = 0 then (if 0 ≤ x1 then (if x1 < (x0.length : Int) then (if x8 = 9 then (if (IntKind.u64.wrap (rd x0 x1)) > 1 then (examboardref10_number.j1 k x0 (wrap64 (x1 + 1)) x7 x8 (IntKind.u64.wrap (rd x0 x1)) true) else (if x8 > 0 then (examboardref10_number.j1 k x0 (wrap64 (x1 + 1)) x7 x8 (IntKind.u64.wrap (rd x0 x1)) ((IntKind.u64.wrap (rd x0 x1)) == 0)) else (examboardref10_number.j1 k x0 (wrap64 (x1 + 1)) x7 x8 (IntKind.u64.wrap (rd x0 x1)) false))) else (if x8 > 0 then (examboardref10_number.j1 k x0 (wrap64 (x1 + 1)) x7 x8 (IntKind.u64.wrap (rd x0 x1)) ((IntKind.u64.wrap (rd x0 x1)) == 0)) else (examboardref10_number.j1 k x0 (wrap64 (x1 + 1)) x7 x8 (IntKind.u64.wrap (rd x0 x1)) false))) else (none)) else (none)) else (some (0, 0, t467)))) else (some (0, 0, 2))
def examboardref10_number.j1 : Nat → List Int → Int → Int → Int → Int → Bool → Option (Int × Int × Int)
 | 0, _, _, _, _, _, _ => none
 | k + 1, x0, x1, x7, x8, x10, x41 => if x41 = true then (some (0, 0, 2)) else (if 0 ≤ (IntKind.u64.wrap (wrap64 (7 * x8))) then (if x10 < 128 then (some (IntKind.u64.wrap (x7 + (shl .u64 (Int.tmod x10 128) (IntKind.u64.wrap (wrap64 (7 * x8))))), x1, 0)) else (examboardref10_number.l0 k x0 x1 (IntKind.u64.wrap (x7 + (shl .u64 (Int.tmod x10 128) (IntKind.u64.wrap (wrap64 (7 * x8)))))) (wrap64 (x8 + 1)))) else (none))
end
def examboardref10_number.f (k : Nat) (l0 : List Int) (a1 : Int) : Option (Int × Int × Int) := examboardref10_number.l0 k l0 a1 0 0
theorem examboardref10_number.mono_l : ∀ k, (∀ y0 y1 y2 y3, LeO (examboardref10_number.l0 k y0 y1 y2 y3) (examboardref10_number.l0 (k + 1) y0 y1 y2 y3)) ∧ (∀ y0 y1 y2 y3 y4 y5, LeO (examboardref10_number.j1 k y0 y1 y2 y3 y4 y5) (examboardref10_number.j1 (k + 1) y0 y1 y2 y3 y4 y5))
 | 0 => ⟨fun _ _ _ _ r h => by simp [examboardref10_number.l0] at h, fun _ _ _ _ _ _ r h => by simp [examboardref10_number.j1] at h⟩
 | k + 1 => by
  obtain ⟨ih0, ih1⟩ := examboardref10_number.mono_l k
  refine ⟨?_, ?_⟩
  ·
   intro y0 y1 y2 y3
   unfold examboardref10_number.l0
   repeat' first
   | (with_reducible exact ih0 _ _ _ _)
   | (with_reducible exact ih1 _ _ _ _ _ _)
   | (with_reducible exact LeO.refl _)
   | (with_reducible exact LeO.none _)
   | (with_reducible refine LeO.ite ?_ ?_)
   | (with_reducible refine LeO.bind ?_ (fun _ => ?_))
   | exact ih0 _ _ _ _
   | exact ih1 _ _ _ _ _ _
   | exact LeO.none _
   | refine LeO.ite ?_ ?_
   | refine LeO.bind ?_ (fun _ => ?_)
  ·
   intro y0 y1 y2 y3 y4 y5
   unfold examboardref10_number.j1
   repeat' first
   | (with_reducible exact ih0 _ _ _ _)
   | (with_reducible exact ih1 _ _ _ _ _ _)
   | (with_reducible exact LeO.refl _)
   | (with_reducible exact LeO.none _)
   | (with_reducible refine LeO.ite ?_ ?_)
   | (with_reducible refine LeO.bind ?_ (fun _ => ?_))
   | exact ih0 _ _ _ _
   | exact ih1 _ _ _ _ _ _
   | exact LeO.none _
   | refine LeO.ite ?_ ?_
   | refine LeO.bind ?_ (fun _ => ?_)
theorem examboardref10_number.mono : ∀ a0 a1 k, LeO (examboardref10_number.f k a0 a1) (examboardref10_number.f (k + 1) a0 a1) := by
 intro a0 a1 k
 obtain ⟨ih0, ih1⟩ := examboardref10_number.mono_l k
 unfold examboardref10_number.f
 repeat' first
   | (with_reducible exact ih0 _ _ _ _)
   | (with_reducible exact ih1 _ _ _ _ _ _)
   | (with_reducible exact LeO.refl _)
   | (with_reducible exact LeO.none _)
   | (with_reducible refine LeO.ite ?_ ?_)
   | (with_reducible refine LeO.bind ?_ (fun _ => ?_))
   | exact ih0 _ _ _ _
   | exact ih1 _ _ _ _ _ _
   | exact LeO.none _
   | refine LeO.ite ?_ ?_
   | refine LeO.bind ?_ (fun _ => ?_)
set_option maxHeartbeats 8000000 in
set_option maxRecDepth 100000 in
theorem examboardref10_number.calls (k : Nat) (A0 : Option Addr) (c0 : Nat) (l0 : List Int) (a1 : Int) (r1 : Int) (r2 : Int) (r3 : Int) (w : World) (hr0 : Kd.C (Kd.int .u8) w A0 l0.length l0) (hc0 : l0.length ≤ c0) (h : examboardref10_number.f k l0 a1 = some (r1, r2, r3)) :
  Calls Tryd.prog 75 #[.slice A0 l0.length c0, .int .i64 a1] w fun e w' => e = .returned (.tuple #[.int .u64 r1, .int .i64 r2, .int .i64 r3]) ∧ Below w.heap.size w w' := by
 have HR0 := am hr0
 have HC0 := am hc0
 clear hr0 hc0
 have HB := am (Below.refl w.heap.size w)
 have H : (examboardref10_number.l0 k l0 a1 0 0) = some (r1, r2, r3) := h
 clear h
 have H' := am H
 clear H
 go_enter Tryd.func75, Tryd.ntmps75
 go_wp2
 go_loopg [1, 7, 8] k (fun kq v1 v7 v8 w' => ∃ (x1_1 : Int) (x7_1 : Int) (x8_1 : Int), v1 = .int .i64 x1_1 ∧ v7 = .int .u64 x7_1 ∧ v8 = .int .i64 x8_1 ∧ Aside0 (examboardref10_number.l0 kq l0 x1_1 x7_1 x8_1 = some (r1, r2, r3)) ∧ Aside0 (kq ≤ k) ∧ Aside0 (Below w.heap.size w w'))
 case atStart => exact ⟨(a1), (0), (0), rfz, rfz, rfz, H', ⟨Nat.le_refl _⟩, ⟨hz HB.out⟩⟩
 case round =>
  clear H'
  obtain ⟨x1_1, x7_1, x8_1, rfl, rfl, rfl, HA, HK1, HB⟩ := hrel
  cases gk with
  | zero => exact absurd HA.out (by simp [examboardref10_number.l0])
  | succ k1 =>
   have H := HA.out
   clear HA
   simp only [examboardref10_number.l0] at H
   by_cases c3 : x8_1 < 10
   ·
    rw [if_pos c3] at H
    have c3b0 : decide (x8_1 < 10) = true := decide_eq_true c3
    clear c3
    replace H := Option.bind_eq_some_iff.mp H
    obtain ⟨t467, A40, H⟩ := H
    try dsimp only at H
    have A4 := am A40
    clear A40
    by_cases c5 : t467 = 0
    ·
     rw [if_pos c5] at H
     have c5b0 : (t467 == 0) = true := beq_iff_eq.mpr c5
     have c5b1 : (t467 != 0) = false := bne_eq_false_iff_eq.mpr c5
     clear c5
     replace H := it_ H
     obtain ⟨c6, H⟩ := H
     have c6b0 : decide (0 ≤ x1_1) = true := decide_eq_true c6
     clear c6
     replace H := it_ H
     obtain ⟨c7, H⟩ := H
     have c7b0 : decide (x1_1 < (l0.length : Int)) = true := decide_eq_true c7
     clear c7
     have HC8 := am H
     clear H
     go_upto_region 10 with (first | ((with_reducible refine gate_callee (f := 76) rfl ?_); refine goesL_ (some 17) rfl rfl Tryd.func76 (by kernel_rfl) rfl #[.slice A0 l0.length c0, .int .i64 x1_1, .int .i64 1] rfl lz ?_; (with_reducible refine (examboardref10_need.calls _ _ l0 x1_1 1 t467 _ ?side1 ?side2 A4.out).mono ?_); (case side1 => exact cz (Kd.C_below HR0.out HB.out)); (case side2 => exact HC0.out); rintro e w9 ⟨rfl, hb⟩; refine ⟨_, rfl, ?_⟩; replace HB := am (below_step (hz HB.out) hb); have p468 : 0 ≤ (x1_1 : Int) := of_decide_eq_true az; have q468 : x1_1 < (l0.length : Int) := of_decide_eq_true az; obtain ⟨ad468, e468, hx468_0⟩ := Kd.at_int HR0.out x1_1 p468 q468; cases e468; replace hx468_0 := (HB.out.cell (World.block_lt_of_cell? w _ hx468_0)).trans hx468_0; replace p468 := eq_true p468; replace q468 := eq_true q468))
     (try simp only [Act.put, List.setIfInBounds_toArray, List.set_cons_zero, List.set_cons_succ])
     go_cut [41] (fun v41 wc => ∃ (kq : Nat) (x41_7 : Bool), v41 = .bool x41_7 ∧ Aside0 (examboardref10_number.j1 kq l0 (wrap64 (x1_1 + 1)) x7_1 x8_1 (IntKind.u64.wrap (rd l0 x1_1)) x41_7 = some (r1, r2, r3)) ∧ Aside0 (kq ≤ k1) ∧ Aside0 (Below w.heap.size w wc))
     case first =>
      have H := HC8.out
      clear HC8
      by_cases c10 : x8_1 = 9
      ·
       rw [if_pos c10] at H
       have c10b0 : (x8_1 == 9) = true := beq_iff_eq.mpr c10
       have c10b1 : (x8_1 != 9) = false := bne_eq_false_iff_eq.mpr c10
       clear c10
       (first | rw [c10b0] | (simp only [i64_w, i32_w]; rw [c10b0]) | skip)
       by_cases c11 : (IntKind.u64.wrap (rd l0 x1_1)) > 1
       ·
        rw [if_pos c11] at H
        have c11b0 : decide (1 < (IntKind.u64.wrap (rd l0 x1_1))) = true := decide_eq_true c11
        clear c11
        have H' := am H
        clear H
        go_wp2
        go_meet
        case rel => exact ⟨_, (true), rfz, H', ⟨by have := HK1.out; first | omega | exact Nat.le_refl _⟩, ⟨hz HB.out⟩⟩
       ·
        rw [if_neg c11] at H
        have c11b0 : decide (1 < (IntKind.u64.wrap (rd l0 x1_1))) = false := decide_eq_false c11
        clear c11
        by_cases c12 : x8_1 > 0
        ·
         rw [if_pos c12] at H
         have c12b0 : decide (0 < x8_1) = true := decide_eq_true c12
         clear c12
         have H' := am H
         clear H
         go_wp2
         go_meet
         case rel => exact ⟨_, (((IntKind.u64.wrap (rd l0 x1_1)) == 0)), rfz, H', ⟨by have := HK1.out; first | omega | exact Nat.le_refl _⟩, ⟨hz HB.out⟩⟩
        ·
         rw [if_neg c12] at H
         have c12b0 : decide (0 < x8_1) = false := decide_eq_false c12
         clear c12
         have H' := am H
         clear H
         go_wp2
         go_meet
         case rel => exact ⟨_, (false), rfz, H', ⟨by have := HK1.out; first | omega | exact Nat.le_refl _⟩, ⟨hz HB.out⟩⟩
      ·
       rw [if_neg c10] at H
       have c10b0 : (x8_1 == 9) = false := beq_eq_false_iff_ne.mpr c10
       have c10b1 : (x8_1 != 9) = true := bne_iff_ne.mpr c10
       (first | rw [c10b0] | (simp only [i64_w, i32_w]; rw [c10b0]) | skip)
       by_cases c13 : x8_1 > 0
       ·
        rw [if_pos c13] at H
        have c13b0 : decide (0 < x8_1) = true := decide_eq_true c13
        clear c13
        have H' := am H
        clear H
        go_wp2
        go_meet
        case rel => exact ⟨_, (((IntKind.u64.wrap (rd l0 x1_1)) == 0)), rfz, H', ⟨by have := HK1.out; first | omega | exact Nat.le_refl _⟩, ⟨hz HB.out⟩⟩
       ·
        rw [if_neg c13] at H
        have c13b0 : decide (0 < x8_1) = false := decide_eq_false c13
        clear c13
        have H' := am H
        clear H
        go_wp2
        go_meet
        case rel => exact ⟨_, (false), rfz, H', ⟨by have := HK1.out; first | omega | exact Nat.le_refl _⟩, ⟨hz HB.out⟩⟩
     case rest =>
      clear HC8
      obtain ⟨kq, x41_7, rfl, HA, HJ7, HB⟩ := hcut
      cases kq with
      | zero => exact absurd HA.out (by simp [examboardref10_number.j1])
      | succ kj7 =>
       have H := HA.out
       clear HA
       simp only [examboardref10_number.j1] at H
       by_cases c14 : x41_7 = true
       ·
        subst c14
        have H1 := H
        rw [if_pos rfl] at H1
        clear H
        have H := H1
        clear H1
        simp only [Option.some.injEq, Prod.mk.injEq] at H
        obtain ⟨rfl, rfl, rfl⟩ := H
        go_wp2
        go_ret3
        exact ⟨ez, hz HB.out⟩
       ·
        replace c14 := Bool.eq_false_iff.mpr c14
        subst c14
        have H1 := H
        rw [if_neg (show ¬ (false = true) by decide)] at H1
        clear H
        have H := H1
        clear H1
        obtain ⟨ji15, hji15⟩ : ∃ j_ : Int, (IntKind.u64.wrap (wrap64 (7 * x8_1))) = j_ := ⟨_, rfl⟩
        replace H : (if 0 ≤ (ji15) then (if (IntKind.u64.wrap (rd l0 x1_1)) < 128 then (some (IntKind.u64.wrap (x7_1 + (shl .u64 (Int.tmod (IntKind.u64.wrap (rd l0 x1_1)) 128) (ji15))), (wrap64 (x1_1 + 1)), 0)) else (examboardref10_number.l0 kj7 l0 (wrap64 (x1_1 + 1)) (IntKind.u64.wrap (x7_1 + (shl .u64 (Int.tmod (IntKind.u64.wrap (rd l0 x1_1)) 128) (ji15)))) (wrap64 (x8_1 + 1)))) else (none)) = some (r1, r2, r3) := by first | (rw [hji15] at H; exact H) | (simp only [hji15] at H ⊢; exact H)
        replace H := it_ H
        obtain ⟨c16, H⟩ := H
        have c16b0 := eq_true c16
        have c16b1 : decide (0 ≤ (ji15)) = true := decide_eq_true c16
        clear c16
        obtain ⟨ji17, hji17⟩ : ∃ j_ : Int, (shl .u64 (Int.tmod (IntKind.u64.wrap (rd l0 x1_1)) 128) (ji15)) = j_ := ⟨_, rfl⟩
        replace H : (if (IntKind.u64.wrap (rd l0 x1_1)) < 128 then (some (IntKind.u64.wrap (x7_1 + (ji17)), (wrap64 (x1_1 + 1)), 0)) else (examboardref10_number.l0 kj7 l0 (wrap64 (x1_1 + 1)) (IntKind.u64.wrap (x7_1 + (ji17))) (wrap64 (x8_1 + 1)))) = some (r1, r2, r3) := by first | (rw [hji17] at H; exact H) | (simp only [hji17] at H ⊢; exact H)
        have hji17_ : (IntKind.u64.wrap ((Int.tmod (IntKind.u64.wrap (rd l0 x1_1)) 128) * 2 ^ min (ji15).toNat 64)) = ji17 := hji17
        have hji17z : (ji15) ≤ 64 → (IntKind.u64.wrap ((Int.tmod (IntKind.u64.wrap (rd l0 x1_1)) 128) * 2 ^ (ji15).toNat)) = ji17 := shl_small hji17
        by_cases c18 : (IntKind.u64.wrap (rd l0 x1_1)) < 128
        ·
         rw [if_pos c18] at H
         have c18b0 : decide ((IntKind.u64.wrap (rd l0 x1_1)) < 128) = true := decide_eq_true c18
         clear c18
         simp only [Option.some.injEq, Prod.mk.injEq] at H
         obtain ⟨rfl, rfl, rfl⟩ := H
         go_wp2
         go_ret3
         exact ⟨by first | rfl | (simp [errW_none, errW_some] <;> rfl) | (simp only [← hji15, ← hji17]; first | rfl | (simp [errW_none, errW_some] <;> rfl)) | (simp [*, errW_none, errW_some] <;> rfl), hz HB.out⟩
        ·
         rw [if_neg c18] at H
         have c18b0 : decide ((IntKind.u64.wrap (rd l0 x1_1)) < 128) = false := decide_eq_false c18
         clear c18
         have H' := am H
         clear H
         go_wp2
         go_roundg kj7
         case measure => have := HK1.out; have := HJ7.out; omega
         case rel => exact ⟨((wrap64 (x1_1 + 1))), (IntKind.u64.wrap (x7_1 + (ji17))), (wrap64 (x8_1 + 1)), rfz, (by first | rfl | (simp; done) | (simp only [← hji17] <;> (first | rfl | simp)) | (simp [*]; done)), rfz, H', ⟨by have := HK1.out; have := HJ7.out; omega⟩, ⟨hz HB.out⟩⟩
    ·
     rw [if_neg c5] at H
     have c5b0 : (t467 == 0) = false := beq_eq_false_iff_ne.mpr c5
     have c5b1 : (t467 != 0) = true := bne_iff_ne.mpr c5
     simp only [Option.some.injEq, Prod.mk.injEq] at H
     obtain ⟨rfl, rfl, rfl⟩ := H
     go_wp2_with (first | ((with_reducible refine gate_callee (f := 76) rfl ?_); refine goesL_ (some 17) rfl rfl Tryd.func76 (by kernel_rfl) rfl #[.slice A0 l0.length c0, .int .i64 x1_1, .int .i64 1] rfl lz ?_; (with_reducible refine (examboardref10_need.calls _ _ l0 x1_1 1 t467 _ ?side1 ?side2 A4.out).mono ?_); (case side1 => exact cz (Kd.C_below HR0.out HB.out)); (case side2 => exact HC0.out); rintro e w19 ⟨rfl, hb⟩; refine ⟨_, rfl, ?_⟩; replace HB := am (below_step (hz HB.out) hb)))
     go_ret3
     exact ⟨ez, hz HB.out⟩
   ·
    rw [if_neg c3] at H
    have c3b0 : decide (x8_1 < 10) = false := decide_eq_false c3
    clear c3
    simp only [Option.some.injEq, Prod.mk.injEq] at H
    obtain ⟨rfl, rfl, rfl⟩ := H
    go_wp2
    go_ret3
    exact ⟨ez, hz HB.out⟩

/-! ### examboardref10_text: function 77 -/
def examboardref10_text.f (l0 : List Int) (a1 : Int) (a2 : Int) (a3_0 : Int) (a3_1 : Int) (a3_2 : Int) (a3_3 : ByteArray) (l3_4 : List (S43)) : Option (Int × Int × Int × ByteArray × (List (S43)) × Int × Int) := if a2 > 2000 then (some (0, 0, 0, (⟨#[]⟩ : ByteArray), ([] : List (S43)), 0, 5)) else ((examboardref10_need.f l0 a1 (wrap64 (a2))).bind fun t471 => (if t471 = 0 then (if 0 ≤ a1 then (if a1 ≤ (wrap64 (a1 + (wrap64 (a2)))) then (if (wrap64 (a1 + (wrap64 (a2)))) ≤ (l0.length : Int) then (some (a3_0, a3_1, a3_2, strOfNums ((l0.take ((wrap64 (a1 + (wrap64 (a2)))) : Int).toNat).drop (a1 : Int).toNat), l3_4, wrap64 (a1 + (wrap64 (a2))), 0)) else (none)) else (none)) else (none)) else (some (0, 0, 0, (⟨#[]⟩ : ByteArray), ([] : List (S43)), 0, t471))))
set_option maxHeartbeats 8000000 in
set_option maxRecDepth 100000 in
theorem examboardref10_text.calls (A0 : Option Addr) (c0 : Nat) (l0 : List Int) (a1 : Int) (a2 : Int) (a3_0 : Int) (a3_1 : Int) (a3_2 : Int) (a3_3 : ByteArray) (P3_4_ : Nat → Prop) (A3_4 : Option Addr) (c3_4 : Nat) (l3_4 : List (S43)) (r1 : Int) (r2 : Int) (r3 : Int) (r4 : ByteArray) (r5 : List (S43)) (r6 : Int) (r7 : Int) (w : World) (hr0 : Kd.C (Kd.int .u8) w A0 l0.length l0) (hc0 : l0.length ≤ c0) (hs3_4 : Kd.V k43 43 w w.heap.size (fun k_ => P3_4_ k_) (.slice A3_4 l3_4.length c3_4) l3_4) (h : examboardref10_text.f l0 a1 a2 a3_0 a3_1 a3_2 a3_3 l3_4 = some (r1, r2, r3, r4, r5, r6, r7)) :
  Calls Tryd.prog 77 #[.slice A0 l0.length c0, .int .i64 a1, .int .u64 a2, .agg #[.int .i64 a3_0, .int .i64 a3_1, .int .i64 a3_2, .string a3_3, .slice A3_4 l3_4.length c3_4]] w fun e w' => ∃ v4_ : Value, e = .returned (.tuple #[.agg #[.int .i64 r1, .int .i64 r2, .int .i64 r3, .string r4, v4_], .int .i64 r6, .int .i64 r7]) ∧ Kd.V k43 43 w' w.heap.size (fun k_ => (P3_4_ k_ ∨ w.heap.size ≤ k_)) v4_ r5 ∧ Below w.heap.size w w' := by
 have hu43 := Tryd.underlying43
 have HR0 := am hr0
 have HC0 := am hc0
 clear hr0 hc0
 have HO3_4 := am (show Kd.V k43 43 w w.heap.size (fun k_ => (P3_4_ k_ ∨ w.heap.size ≤ k_)) (.slice A3_4 l3_4.length c3_4) l3_4 from Kd.V_mono hs3_4 (fun k_ hk => .inl hk))
 have HB := am (Below.refl w.heap.size w)
 have H : (if a2 > 2000 then (some (0, 0, 0, (⟨#[]⟩ : ByteArray), ([] : List (S43)), 0, 5)) else ((examboardref10_need.f l0 a1 (wrap64 (a2))).bind fun t471 => (if t471 = 0 then (if 0 ≤ a1 then (if a1 ≤ (wrap64 (a1 + (wrap64 (a2)))) then (if (wrap64 (a1 + (wrap64 (a2)))) ≤ (l0.length : Int) then (some (a3_0, a3_1, a3_2, strOfNums ((l0.take ((wrap64 (a1 + (wrap64 (a2)))) : Int).toNat).drop (a1 : Int).toNat), l3_4, wrap64 (a1 + (wrap64 (a2))), 0)) else (none)) else (none)) else (none)) else (some (0, 0, 0, (⟨#[]⟩ : ByteArray), ([] : List (S43)), 0, t471))))) = some (r1, r2, r3, r4, r5, r6, r7) := h
 clear h
 by_cases c5 : a2 > 2000
 ·
  rw [if_pos c5] at H
  have c5b0 : decide (2000 < a2) = true := decide_eq_true c5
  clear c5
  simp only [Option.some.injEq, Prod.mk.injEq] at H
  obtain ⟨rfl, rfl, rfl, rfl, rfl, rfl, rfl⟩ := H
  go_enter Tryd.func77, Tryd.ntmps77
  go_wp2_with (first | ((with_reducible refine gate_dst (N := 7) rfl ?_); refine box_event rfl (N := 7) rfl (cs := #[.int .i64 a3_0, .int .i64 a3_1, .int .i64 a3_2, .string a3_3, .slice A3_4 l3_4.length c3_4]) (t := 43) gz ?_; intro gb469 hg w6 hbox hb; replace HO3_4 := am (Kd.V_below (Kd.V_elderB (vz HO3_4.out) gb469 (Nat.le_of_eq hg.symm)) hb); have BK469 := am (hbox); have GW469 := am ((bs hg (hz HB.out) : w.heap.size ≤ gb469)); have GE469 := am ((bs hg (hz HB.out) : w.heap.size ≤ gb469)); replace HB := am (below_step (hz HB.out) hb); clear hb hbox hg) | ((with_reducible refine gate_dst (N := 8) rfl ?_); refine box_event rfl (N := 8) rfl (cs := #[.int .i64 0, .int .i64 0, .int .i64 0, .string (⟨#[]⟩ : ByteArray), .slice none 0 0]) (t := 43) gz ?_; intro gb470 hg w7 hbox hb; replace HO3_4 := am (Kd.V_below (Kd.V_elderB (vz HO3_4.out) gb470 (Nat.le_of_eq hg.symm)) hb); have BK470 := am (hbox); have GW470 := am ((bs hg (hz1 HB.out GE469.out) : w.heap.size ≤ gb470)); have GE470 := am ((bs hg (hz1 HB.out GE469.out) : w.heap.size ≤ gb470)); replace HB := am (below_step (hz1 HB.out GE469.out) hb); have NB469_470 := am ((nl hg (bz BK469.out) : gb469 ≠ gb470)); have NB470_469 := am ((ng hg (bz BK469.out) : gb470 ≠ gb469)); replace BK469 := am (blk_below (bz BK469.out) hb); clear hb hbox hg; have hnb8 := NB470_469.out; have hnc8 := NB469_470.out; obtain ⟨hcz9_0, hcz9_1, hcz9_2, hcz9_3, hcz9_4⟩ := cs5 BK470.out; obtain ⟨hfz9_0, hfz9_1, hfz9_2, hfz9_3, hfz9_4⟩ := fs5 BK470.out))
  refine bodyPost_ret (results_ctt rfl _ _ gb470 43 #[.int .i64 0, .int .i64 0, .int .i64 0, .string (⟨#[]⟩ : ByteArray), .slice none 0 0] (0, 0) _ rfl (bp BK470.out) Tryd.underlying43 rfl (by kernel_rfl)) rfl ?_
  exact ⟨_, ew, Kd.V_nil _ _ _ _ _, hz2 HB.out GE469.out GE470.out⟩
 ·
  rw [if_neg c5] at H
  have c5b0 : decide (2000 < a2) = false := decide_eq_false c5
  clear c5
  replace H := Option.bind_eq_some_iff.mp H
  obtain ⟨t471, A100, H⟩ := H
  try dsimp only at H
  have A10 := am A100
  clear A100
  by_cases c11 : t471 = 0
  ·
   rw [if_pos c11] at H
   have c11b0 : (t471 == 0) = true := beq_iff_eq.mpr c11
   have c11b1 : (t471 != 0) = false := bne_eq_false_iff_eq.mpr c11
   clear c11
   replace H := it_ H
   obtain ⟨c12, H⟩ := H
   have c12b0 := eq_true c12
   have c12b1 : decide (0 ≤ a1) = true := decide_eq_true c12
   clear c12
   replace H := it_ H
   obtain ⟨c13, H⟩ := H
   have c13b0 := eq_true c13
   have c13b1 : decide (a1 ≤ (wrap64 (a1 + (wrap64 (a2))))) = true := decide_eq_true c13
   replace H := it_ H
   obtain ⟨c14, H⟩ := H
   have c14b0 := eq_true c14
   have c14b1 : decide ((wrap64 (a1 + (wrap64 (a2)))) ≤ (l0.length : Int)) = true := decide_eq_true c14
   simp only [Option.some.injEq, Prod.mk.injEq] at H
   obtain ⟨rfl, rfl, rfl, rfl, rfl, rfl, rfl⟩ := H
   go_enter Tryd.func77, Tryd.ntmps77
   go_wp2_with (first | ((with_reducible refine gate_dst (N := 7) rfl ?_); refine box_event rfl (N := 7) rfl (cs := #[.int .i64 a3_0, .int .i64 a3_1, .int .i64 a3_2, .string a3_3, .slice A3_4 l3_4.length c3_4]) (t := 43) gz ?_; intro gb469 hg w15 hbox hb; replace HO3_4 := am (Kd.V_below (Kd.V_elderB (vz HO3_4.out) gb469 (Nat.le_of_eq hg.symm)) hb); have BK469 := am (hbox); have GW469 := am ((bs hg (hz HB.out) : w.heap.size ≤ gb469)); have GE469 := am ((bs hg (hz HB.out) : w.heap.size ≤ gb469)); replace HB := am (below_step (hz HB.out) hb); clear hb hbox hg) | ((with_reducible refine gate_dst (N := 8) rfl ?_); refine box_event rfl (N := 8) rfl (cs := #[.int .i64 0, .int .i64 0, .int .i64 0, .string (⟨#[]⟩ : ByteArray), .slice none 0 0]) (t := 43) gz ?_; intro gb470 hg w16 hbox hb; replace HO3_4 := am (Kd.V_below (Kd.V_elderB (vz HO3_4.out) gb470 (Nat.le_of_eq hg.symm)) hb); have BK470 := am (hbox); have GW470 := am ((bs hg (hz1 HB.out GE469.out) : w.heap.size ≤ gb470)); have GE470 := am ((bs hg (hz1 HB.out GE469.out) : w.heap.size ≤ gb470)); replace HB := am (below_step (hz1 HB.out GE469.out) hb); have NB469_470 := am ((nl hg (bz BK469.out) : gb469 ≠ gb470)); have NB470_469 := am ((ng hg (bz BK469.out) : gb470 ≠ gb469)); replace BK469 := am (blk_below (bz BK469.out) hb); clear hb hbox hg) | ((with_reducible refine gate_callee (f := 76) rfl ?_); refine goesL_ (some 19) rfl rfl Tryd.func76 (by kernel_rfl) rfl #[.slice A0 l0.length c0, .int .i64 a1, .int .i64 (wrap64 (a2))] rfl lz ?_; (with_reducible refine (examboardref10_need.calls _ _ l0 a1 (wrap64 (a2)) t471 _ ?side1 ?side2 A10.out).mono ?_); (case side1 => exact cz (Kd.C_below HR0.out HB.out)); (case side2 => exact HC0.out); rintro e w17 ⟨rfl, hb⟩; refine ⟨_, rfl, ?_⟩; replace HO3_4 := am (Kd.V_below (vz HO3_4.out) hb); replace BK469 := am (blk_below (bz BK469.out) hb); replace BK470 := am (bw BK470.out hb); replace HB := am (below_step (hz2 HB.out GE469.out GE470.out) hb); obtain ⟨i018, hi018, _, hsz18, _⟩ := info_parts info5; obtain ⟨A18, hcut18, hA18, hC18⟩ := print_mid_of (P := Tryd.prog) (Value.int .u8) 0 24 5 .i64 .i64 Tryd.underlying24 hi018 hsz18 A0 c0 l0 a1 (wrap64 (a1 + (wrap64 (a2)))) (of_decide_eq_true az) (by first | omega | exact of_decide_eq_true az) (of_decide_eq_true az) HC0.out; have HR472 := am (Kd.C_of_reads (h1 := fun _ => rfl) (hA18 _ (Kd.reads_of_C HR0.out))); have HC472 := am hC18; clear hA18 hC18 hi018 hsz18; have hcv19 := Kd.C_string (P := Tryd.prog) (A := A18) (c := (c0 - a1.toNat)) Tryd.underlying24 Tryd.underlying5 Tryd.underlying9 (Kd.C_below HR472.out HB.out); have hle_ : ((wrap64 (a1 + (wrap64 (a2)))) : Int).toNat ≤ l0.length := (by have h_ : ((wrap64 (a1 + (wrap64 (a2)))) : Int) ≤ (l0.length : Int) := of_decide_eq_true az; omega); rw [List.length_drop, List.length_take, Nat.min_eq_left hle_] at hcv19; have hnb20 := NB469_470.out; have hnc20 := NB470_469.out; obtain ⟨hcz21_0, hcz21_1, hcz21_2, hcz21_3, hcz21_4⟩ := cs5 BK469.out; obtain ⟨hfz21_0, hfz21_1, hfz21_2, hfz21_3, hfz21_4⟩ := fs5 BK469.out; obtain ⟨hcz22_0, hcz22_1, hcz22_2, hcz22_3, hcz22_4⟩ := cs5 BK470.out; obtain ⟨hfz22_0, hfz22_1, hfz22_2, hfz22_3, hfz22_4⟩ := fs5 BK470.out))
   refine bodyPost_ret (results_ctt rfl _ _ gb470 43 #[.int .i64 a3_0, .int .i64 a3_1, .int .i64 a3_2, .string (strOfNums ((l0.take ((wrap64 (a1 + (wrap64 (a2)))) : Int).toNat).drop (a1 : Int).toNat)), .slice A3_4 l3_4.length c3_4] (0, 0) _ rfl (by (with_reducible repeat (first | refine blk_drewN ?_ _ | refine blk_drew ?_ | refine blk_alloc ?_ _)); refine blk_put (cs := #[.int .i64 a3_0, .int .i64 a3_1, .int .i64 a3_2, .string (strOfNums ((l0.take ((wrap64 (a1 + (wrap64 (a2)))) : Int).toNat).drop (a1 : Int).toNat)), .slice none 0 0]) ?_ 4 _ rfl; (with_reducible repeat (first | refine blk_drewN ?_ _ | refine blk_drew ?_ | refine blk_alloc ?_ _)); refine blk_put (cs := #[.int .i64 a3_0, .int .i64 a3_1, .int .i64 a3_2, .string (⟨#[]⟩ : ByteArray), .slice none 0 0]) ?_ 3 _ rfl; (with_reducible repeat (first | refine blk_drewN ?_ _ | refine blk_drew ?_ | refine blk_alloc ?_ _)); refine blk_put (cs := #[.int .i64 a3_0, .int .i64 a3_1, .int .i64 0, .string (⟨#[]⟩ : ByteArray), .slice none 0 0]) ?_ 2 _ rfl; (with_reducible repeat (first | refine blk_drewN ?_ _ | refine blk_drew ?_ | refine blk_alloc ?_ _)); refine blk_put (cs := #[.int .i64 a3_0, .int .i64 0, .int .i64 0, .string (⟨#[]⟩ : ByteArray), .slice none 0 0]) ?_ 1 _ rfl; (with_reducible repeat (first | refine blk_drewN ?_ _ | refine blk_drew ?_ | refine blk_alloc ?_ _)); refine blk_put (cs := #[.int .i64 0, .int .i64 0, .int .i64 0, .string (⟨#[]⟩ : ByteArray), .slice none 0 0]) ?_ 0 _ rfl; (with_reducible repeat (first | refine blk_drewN ?_ _ | refine blk_drew ?_ | refine blk_alloc ?_ _)); refine blk_far ?_ NB470_469.out _; (with_reducible repeat (first | refine blk_drewN ?_ _ | refine blk_drew ?_ | refine blk_alloc ?_ _)); exact BK470.out) Tryd.underlying43 rfl (by kernel_rfl)) rfl ?_
   exact ⟨_, ew, by (with_reducible repeat (first | apply Kd.V_alloc | apply Kd.V_drewN | apply Kd.V_drew)); exact Kd.V_mono (Kd.V_far (p := ⟨gb470, 4, none⟩) (Kd.V_far (p := ⟨gb470, 3, none⟩) (Kd.V_far (p := ⟨gb470, 2, none⟩) (Kd.V_far (p := ⟨gb470, 1, none⟩) (Kd.V_far (p := ⟨gb470, 0, none⟩) (Kd.V_far (p := ⟨gb469, 3, none⟩) (Kd.V_mono (Kd.V_mono HO3_4.out (fun k_ hk => (⟨hk, hk.1.2⟩ : _ ∧ k_ ≠ gb469))) (fun k_ hk => (⟨hk, hk.1.2⟩ : _ ∧ k_ ≠ gb470))) (fun _ hk => hk.1.2) (.string (strOfNums ((l0.take ((wrap64 (a1 + (wrap64 (a2)))) : Int).toNat).drop (a1 : Int).toNat)))) (fun _ hk => hk.2) (.int .i64 a3_0)) (fun _ hk => hk.2) (.int .i64 a3_1)) (fun _ hk => hk.2) (.int .i64 a3_2)) (fun _ hk => hk.2) (.string (strOfNums ((l0.take ((wrap64 (a1 + (wrap64 (a2)))) : Int).toNat).drop (a1 : Int).toNat)))) (fun _ hk => hk.2) (.slice A3_4 l3_4.length c3_4)) (fun _ hk => hk.1.1.1.1), hz2 HB.out GE469.out GE470.out⟩
  ·
   rw [if_neg c11] at H
   have c11b0 : (t471 == 0) = false := beq_eq_false_iff_ne.mpr c11
   have c11b1 : (t471 != 0) = true := bne_iff_ne.mpr c11
   simp only [Option.some.injEq, Prod.mk.injEq] at H
   obtain ⟨rfl, rfl, rfl, rfl, rfl, rfl, rfl⟩ := H
   go_enter Tryd.func77, Tryd.ntmps77
   go_wp2_with (first | ((with_reducible refine gate_dst (N := 7) rfl ?_); refine box_event rfl (N := 7) rfl (cs := #[.int .i64 a3_0, .int .i64 a3_1, .int .i64 a3_2, .string a3_3, .slice A3_4 l3_4.length c3_4]) (t := 43) gz ?_; intro gb469 hg w23 hbox hb; replace HO3_4 := am (Kd.V_below (Kd.V_elderB (vz HO3_4.out) gb469 (Nat.le_of_eq hg.symm)) hb); have BK469 := am (hbox); have GW469 := am ((bs hg (hz HB.out) : w.heap.size ≤ gb469)); have GE469 := am ((bs hg (hz HB.out) : w.heap.size ≤ gb469)); replace HB := am (below_step (hz HB.out) hb); clear hb hbox hg) | ((with_reducible refine gate_dst (N := 8) rfl ?_); refine box_event rfl (N := 8) rfl (cs := #[.int .i64 0, .int .i64 0, .int .i64 0, .string (⟨#[]⟩ : ByteArray), .slice none 0 0]) (t := 43) gz ?_; intro gb470 hg w24 hbox hb; replace HO3_4 := am (Kd.V_below (Kd.V_elderB (vz HO3_4.out) gb470 (Nat.le_of_eq hg.symm)) hb); have BK470 := am (hbox); have GW470 := am ((bs hg (hz1 HB.out GE469.out) : w.heap.size ≤ gb470)); have GE470 := am ((bs hg (hz1 HB.out GE469.out) : w.heap.size ≤ gb470)); replace HB := am (below_step (hz1 HB.out GE469.out) hb); have NB469_470 := am ((nl hg (bz BK469.out) : gb469 ≠ gb470)); have NB470_469 := am ((ng hg (bz BK469.out) : gb470 ≠ gb469)); replace BK469 := am (blk_below (bz BK469.out) hb); clear hb hbox hg) | ((with_reducible refine gate_callee (f := 76) rfl ?_); refine goesL_ (some 19) rfl rfl Tryd.func76 (by kernel_rfl) rfl #[.slice A0 l0.length c0, .int .i64 a1, .int .i64 (wrap64 (a2))] rfl lz ?_; (with_reducible refine (examboardref10_need.calls _ _ l0 a1 (wrap64 (a2)) t471 _ ?side1 ?side2 A10.out).mono ?_); (case side1 => exact cz (Kd.C_below HR0.out HB.out)); (case side2 => exact HC0.out); rintro e w25 ⟨rfl, hb⟩; refine ⟨_, rfl, ?_⟩; replace HO3_4 := am (Kd.V_below (vz HO3_4.out) hb); replace BK469 := am (blk_below (bz BK469.out) hb); replace BK470 := am (bw BK470.out hb); replace HB := am (below_step (hz2 HB.out GE469.out GE470.out) hb); have hnb26 := NB470_469.out; have hnc26 := NB469_470.out; obtain ⟨hcz27_0, hcz27_1, hcz27_2, hcz27_3, hcz27_4⟩ := cs5 BK470.out; obtain ⟨hfz27_0, hfz27_1, hfz27_2, hfz27_3, hfz27_4⟩ := fs5 BK470.out))
   refine bodyPost_ret (results_ctt rfl _ _ gb470 43 #[.int .i64 0, .int .i64 0, .int .i64 0, .string (⟨#[]⟩ : ByteArray), .slice none 0 0] (0, 0) _ rfl (bp BK470.out) Tryd.underlying43 rfl (by kernel_rfl)) rfl ?_
   exact ⟨_, ew, Kd.V_nil _ _ _ _ _, hz2 HB.out GE469.out GE470.out⟩

end Go.Proofs.YteeggfnailpcpaaDoor.Q
