/- Made by wip/myprint.py of this session (it drives the kit's printer): what the calls of the Go functions come to, as plain Lean functions, and the row of a law over them; without conditions. -/
import Derived.Test.YtcohkopbgfnlbaaQx0
import Derived.Test.YtcohkopbgfnlbaaQx1
import Derived.Test.YtcohkopbgfnlbaaQx2
import Derived.Test.YtcohkopbgfnlbaaQx3
import Derived.Test.YtcohkopbgfnlbaaQx4
namespace Go.Proofs.Ytcohkopbgfnlbaa.Q
open Go.RowKit Go.Proofs.YtcohkopbgfnlbaaW.PrintWords Go.Proofs.YtcohkopbgfnlbaaW.PrintLast Go.Proofs.YtcohkopbgfnlbaaW.PrintMore
attribute [local go_sem] max2_int min2_int max_two min_two max_three min_three max_four min_four   -- for this text's walks alone
set_option linter.unusedVariables false
set_option linter.unusedSimpArgs false

/-! ### examboardref12_number: function 30 -/
def examboardref12_number.l0 : Nat → List Int → Int → Int → Option (Int)
  | 0, _, _, _ => none
  | k + 1, x0, x3, x4 => if x4 < 8 then (if 0 ≤ x4 then (if x4 < (x0.length : Int) then (examboardref12_number.l0 k x0 (IntKind.u64.wrap ((IntKind.u64.wrap (x3 * 256)) + (IntKind.u64.wrap (rd x0 x4)))) (wrap64 (x4 + 1))) else (none)) else (none)) else (some x3)
def examboardref12_number.f (k : Nat) (l0 : List Int) : Option (Int) := examboardref12_number.l0 k l0 0 0
theorem examboardref12_number.mono_l : ∀ k, (∀ y0 y1 y2, LeO (examboardref12_number.l0 k y0 y1 y2) (examboardref12_number.l0 (k + 1) y0 y1 y2))
  | 0 => fun _ _ _ r h => by simp [examboardref12_number.l0] at h
  | k + 1 => by
    have ih0 := examboardref12_number.mono_l k
    · intro y0 y1 y2
      unfold examboardref12_number.l0
      repeat' first
      | (with_reducible exact ih0 _ _ _)
      | (with_reducible exact LeO.refl _)
      | (with_reducible exact LeO.none _)
      | (with_reducible refine LeO.ite ?_ ?_)
      | (with_reducible refine LeO.bind ?_ (fun _ => ?_))
      | exact ih0 _ _ _
      | exact LeO.none _
      | refine LeO.ite ?_ ?_
      | refine LeO.bind ?_ (fun _ => ?_)
theorem examboardref12_number.mono : ∀ a0 k, LeO (examboardref12_number.f k a0) (examboardref12_number.f (k + 1) a0) := by
  intro a0 k
  have ih0 := examboardref12_number.mono_l k
  unfold examboardref12_number.f
  repeat' first
      | (with_reducible exact ih0 _ _ _)
      | (with_reducible exact LeO.refl _)
      | (with_reducible exact LeO.none _)
      | (with_reducible refine LeO.ite ?_ ?_)
      | (with_reducible refine LeO.bind ?_ (fun _ => ?_))
      | exact ih0 _ _ _
      | exact LeO.none _
      | refine LeO.ite ?_ ?_
      | refine LeO.bind ?_ (fun _ => ?_)
set_option maxHeartbeats 8000000 in
set_option maxRecDepth 100000 in
theorem examboardref12_number.calls (k : Nat) (A0 : Option Addr) (c0 : Nat) (l0 : List Int) (r : Int) (w : World) (hr0 : Kd.C (Kd.int .u8) w A0 l0.length l0) (hc0 : l0.length ≤ c0) (h : examboardref12_number.f k l0 = some r) :
    Calls Try.prog 30 #[.slice A0 l0.length c0] w fun e w' => e = .returned (.int .u64 r) ∧ Drawn0 w w' := by
  have HR0 := Aside0.mk hr0
  have HC0 := Aside0.mk hc0
  clear hr0 hc0
  have H : (examboardref12_number.l0 k l0 0 0) = some r := h
  clear h
  have H' := Aside0.mk H
  clear H
  go_enter Try.func30, Try.ntmps30
  go_wp2
  go_loopg [3, 4] k (fun kq v3 v4 w' => ∃ (x3_1 : Int) (x4_1 : Int), v3 = .int .u64 x3_1 ∧ v4 = .int .i64 x4_1 ∧ Aside0 (examboardref12_number.l0 kq l0 x3_1 x4_1 = some r) ∧ Aside0 (kq ≤ k) ∧ Drawn0 w w')
  case atStart => exact ⟨(0), (0), (by first | rfl | (simp; done) | (simp [*]; done)), (by first | rfl | (simp; done) | (simp [*]; done)), H', ⟨Nat.le_refl _⟩, by repeat (first | exact Drawn0.refl _ | apply Drawn0.step)⟩
  case round =>
    clear H'
    obtain ⟨x3_1, x4_1, rfl, rfl, HA, HK1, ⟨m1, rfl⟩⟩ := hrel
    cases gk with
    | zero => exact absurd HA.out (by simp [examboardref12_number.l0])
    | succ k1 =>
      have H := HA.out
      clear HA
      simp only [examboardref12_number.l0] at H
      by_cases c2 : x4_1 < 8
      · rw [if_pos c2] at H
        have c2b0 : decide (x4_1 < 8) = true := decide_eq_true c2
        clear c2
        by_cases c3 : 0 ≤ x4_1
        · rw [if_pos c3] at H
          have c3b0 : decide (0 ≤ x4_1) = true := decide_eq_true c3
          clear c3
          by_cases c4 : x4_1 < (l0.length : Int)
          · rw [if_pos c4] at H
            have c4b0 : decide (x4_1 < (l0.length : Int)) = true := decide_eq_true c4
            clear c4
            have H' := Aside0.mk H
            clear H
            have p231 : 0 ≤ (x4_1 : Int) := of_decide_eq_true (by first | (with_reducible assumption) | assumption)
            have q231 : x4_1 < (l0.length : Int) := of_decide_eq_true (by first | (with_reducible assumption) | assumption)
            obtain ⟨ad231, e231, hx231_0⟩ := Kd.at_int HR0.out x4_1 p231 q231
            cases e231
            replace p231 := eq_true p231
            replace q231 := eq_true q231
            go_wp2
            go_roundg k1
            case measure => have := HK1.out; omega
            case rel => exact ⟨(IntKind.u64.wrap ((IntKind.u64.wrap (x3_1 * 256)) + (IntKind.u64.wrap (rd l0 x4_1)))), (wrap64 (x4_1 + 1)), (by first | rfl | (simp; done) | (simp [*]; done)), (by first | rfl | (simp; done) | (simp [*]; done)), H', ⟨by have := HK1.out; omega⟩, by repeat (first | exact Drawn0.refl _ | apply Drawn0.step)⟩
          · rw [if_neg c4] at H
            exact absurd H (by simp)
        · rw [if_neg c3] at H
          exact absurd H (by simp)
      · rw [if_neg c2] at H
        have c2b0 : decide (x4_1 < 8) = false := decide_eq_false c2
        clear c2
        obtain rfl := Option.some.inj H
        go_wp2
        go_ret
        exact ⟨by first | rfl | (simp; done) | (simp [*]; done), by repeat (first | exact Drawn0.refl _ | apply Drawn0.step)⟩

/-! ### examboardref12_Open: function 16 -/
def examboardref12_Open.f (k : Nat) (a0 : Int) (l1 : List Int) : Option (List Int × Int × Int) := if (l1.length : Int) < 16 then (some (([] : List Int), 0, 4)) else (if (l1.length : Int) > 1048592 then (some (([] : List Int), 0, 5)) else (if 0 ≤ (wrap64 ((l1.length : Int) - 8)) then (if (wrap64 ((l1.length : Int) - 8)) ≤ (l1.length : Int) then ((examboardref11_Chain.f k a0 (l1.take ((wrap64 ((l1.length : Int) - 8)) : Int).toNat)).bind fun t233 => ((examboardref12_number.f k (l1.drop ((wrap64 ((l1.length : Int) - 8)) : Int).toNat)).bind fun t235 => (if t233 = t235 then (if 8 ≤ (l1.length : Int) then ((examboardref12_number.f k (l1.take 8)).bind fun t237 => (if 8 ≤ (wrap64 ((l1.length : Int) - 8)) then ((examboardref12_mix.f k a0 t237 ((l1.take ((wrap64 ((l1.length : Int) - 8)) : Int).toNat).drop 8)).bind fun t239 => (some (t239, t237, 0))) else (none))) else (none)) else (some (([] : List Int), 0, 12))))) else (none)) else (none)))
theorem examboardref12_Open.mono : ∀ a0 a1 k, LeO (examboardref12_Open.f k a0 a1) (examboardref12_Open.f (k + 1) a0 a1) := by
  intro a0 a1 k
  unfold examboardref12_Open.f
  repeat' first
      | (with_reducible exact examboardref11_Chain.mono _ _ _)
      | (with_reducible exact examboardref12_mix.mono _ _ _ _)
      | (with_reducible exact examboardref12_number.mono _ _)
      | (with_reducible exact LeO.refl _)
      | (with_reducible exact LeO.none _)
      | (with_reducible refine LeO.ite ?_ ?_)
      | (with_reducible refine LeO.bind ?_ (fun _ => ?_))
      | exact examboardref11_Chain.mono _ _ _
      | exact examboardref12_mix.mono _ _ _ _
      | exact examboardref12_number.mono _ _
      | exact LeO.none _
      | refine LeO.ite ?_ ?_
      | refine LeO.bind ?_ (fun _ => ?_)
set_option maxHeartbeats 8000000 in
set_option maxRecDepth 100000 in
theorem examboardref12_Open.calls (k : Nat) (a0 : Int) (A1 : Option Addr) (c1 : Nat) (l1 : List Int) (r1 : List Int) (r2 : Int) (r3 : Int) (w : World) (hr1 : Kd.C (Kd.int .u8) w A1 l1.length l1) (hc1 : l1.length ≤ c1) (h : examboardref12_Open.f k a0 l1 = some (r1, r2, r3)) :
    Calls Try.prog 16 #[.int .u64 a0, .slice A1 l1.length c1] w fun e w' => ∃ v0_ : Value, e = .returned (.tuple #[v0_, .int .u64 r2, .int .i64 r3]) ∧ Kd.R (Kd.int .u8) 5 w' w.heap.size (fun _ => True) v0_ r1 ∧ Below w.heap.size w w' := by
  have HR1 := Aside0.mk hr1
  have HC1 := Aside0.mk hc1
  clear hr1 hc1
  have HB := Aside0.mk (Below.refl w.heap.size w)
  have H : (if (l1.length : Int) < 16 then (some (([] : List Int), 0, 4)) else (if (l1.length : Int) > 1048592 then (some (([] : List Int), 0, 5)) else (if 0 ≤ (wrap64 ((l1.length : Int) - 8)) then (if (wrap64 ((l1.length : Int) - 8)) ≤ (l1.length : Int) then ((examboardref11_Chain.f k a0 (l1.take ((wrap64 ((l1.length : Int) - 8)) : Int).toNat)).bind fun t233 => ((examboardref12_number.f k (l1.drop ((wrap64 ((l1.length : Int) - 8)) : Int).toNat)).bind fun t235 => (if t233 = t235 then (if 8 ≤ (l1.length : Int) then ((examboardref12_number.f k (l1.take 8)).bind fun t237 => (if 8 ≤ (wrap64 ((l1.length : Int) - 8)) then ((examboardref12_mix.f k a0 t237 ((l1.take ((wrap64 ((l1.length : Int) - 8)) : Int).toNat).drop 8)).bind fun t239 => (some (t239, t237, 0))) else (none))) else (none)) else (some (([] : List Int), 0, 12))))) else (none)) else (none)))) = some (r1, r2, r3) := h
  clear h
  by_cases c3 : (l1.length : Int) < 16
  · rw [if_pos c3] at H
    have c3b0 : decide ((l1.length : Int) < 16) = true := decide_eq_true c3
    have c3b1 : decide (l1.length < 16) = true := decide_eq_true (by omega)
    clear c3
    simp only [Option.some.injEq, Prod.mk.injEq] at H
    obtain ⟨rfl, rfl, rfl⟩ := H
    go_enter Try.func16, Try.ntmps16
    go_wp2
    repeat (go_quiet (fail); try go_wp2)
    go_ret3
    exact ⟨_, by first | rfl | (simp [errW_none, errW_some] <;> rfl) | (simp [*, errW_none, errW_some] <;> rfl), by first | exact Kd.R_nil _ _ _ _ _ | exact Kd.N_nil _ _ _ _ _ | exact Kd.V_nil _ _ _ _ _ | exact Kd.Q_nil _ _ _ _ _ | exact Kd.S_nil _ _ _ _ _, by repeat (first | (with_reducible first | exact HB.out | apply below_alloc | apply pw_below_drewN | apply below_drew1) | exact HB.out)⟩
  · rw [if_neg c3] at H
    have c3b0 : decide ((l1.length : Int) < 16) = false := decide_eq_false c3
    have c3b1 : decide (l1.length < 16) = false := decide_eq_false (by omega)
    clear c3
    by_cases c4 : (l1.length : Int) > 1048592
    · rw [if_pos c4] at H
      have c4b0 : decide (1048592 < (l1.length : Int)) = true := decide_eq_true c4
      have c4b1 : decide (1048592 < l1.length) = true := decide_eq_true (by omega)
      clear c4
      simp only [Option.some.injEq, Prod.mk.injEq] at H
      obtain ⟨rfl, rfl, rfl⟩ := H
      go_enter Try.func16, Try.ntmps16
      go_wp2
      repeat (go_quiet (fail); try go_wp2)
      go_ret3
      exact ⟨_, by first | rfl | (simp [errW_none, errW_some] <;> rfl) | (simp [*, errW_none, errW_some] <;> rfl), by first | exact Kd.R_nil _ _ _ _ _ | exact Kd.N_nil _ _ _ _ _ | exact Kd.V_nil _ _ _ _ _ | exact Kd.Q_nil _ _ _ _ _ | exact Kd.S_nil _ _ _ _ _, by repeat (first | (with_reducible first | exact HB.out | apply below_alloc | apply pw_below_drewN | apply below_drew1) | exact HB.out)⟩
    · rw [if_neg c4] at H
      have c4b0 : decide (1048592 < (l1.length : Int)) = false := decide_eq_false c4
      have c4b1 : decide (1048592 < l1.length) = false := decide_eq_false (by omega)
      clear c4
      obtain ⟨ji5, hji5⟩ : ∃ j_ : Int, (wrap64 ((l1.length : Int) - 8)) = j_ := ⟨_, rfl⟩
      replace H : (if 0 ≤ (ji5) then (if (ji5) ≤ (l1.length : Int) then ((examboardref11_Chain.f k a0 (l1.take ((ji5) : Int).toNat)).bind fun t233 => ((examboardref12_number.f k (l1.drop ((ji5) : Int).toNat)).bind fun t235 => (if t233 = t235 then (if 8 ≤ (l1.length : Int) then ((examboardref12_number.f k (l1.take 8)).bind fun t237 => (if 8 ≤ (ji5) then ((examboardref12_mix.f k a0 t237 ((l1.take ((ji5) : Int).toNat).drop 8)).bind fun t239 => (some (t239, t237, 0))) else (none))) else (none)) else (some (([] : List Int), 0, 12))))) else (none)) else (none)) = some (r1, r2, r3) := by first | (rw [hji5] at H; exact H) | (simp only [hji5] at H ⊢; exact H)
      have hji5w : (IntKind.i64.wrap ((l1.length : Int) - 8)) = ji5 := (i64_w _).trans hji5
      by_cases c6 : 0 ≤ (ji5)
      · rw [if_pos c6] at H
        have c6b0 := eq_true c6
        have c6b1 : decide (0 ≤ (ji5)) = true := decide_eq_true c6
        clear c6
        by_cases c7 : (ji5) ≤ (l1.length : Int)
        · rw [if_pos c7] at H
          have c7b0 := eq_true c7
          have c7b1 : decide ((ji5) ≤ (l1.length : Int)) = true := decide_eq_true c7
          clear c7
          replace H := Option.bind_eq_some_iff.mp H
          obtain ⟨t233, A80, H⟩ := H
          replace H : ((examboardref12_number.f k (l1.drop ((ji5) : Int).toNat)).bind fun t235 => (if t233 = t235 then (if 8 ≤ (l1.length : Int) then ((examboardref12_number.f k (l1.take 8)).bind fun t237 => (if 8 ≤ (ji5) then ((examboardref12_mix.f k a0 t237 ((l1.take ((ji5) : Int).toNat).drop 8)).bind fun t239 => (some (t239, t237, 0))) else (none))) else (none)) else (some (([] : List Int), 0, 12)))) = some (r1, r2, r3) := H
          have A8 := Aside0.mk A80
          clear A80
          have c9b0 := eq_true (of_decide_eq_true (by first | (with_reducible assumption) | assumption) : 0 ≤ (ji5))
          have c10b0 := eq_true (of_decide_eq_true (by first | (with_reducible assumption) | assumption) : (ji5) ≤ (l1.length : Int))
          replace H := Option.bind_eq_some_iff.mp H
          obtain ⟨t235, A110, H⟩ := H
          replace H : (if t233 = t235 then (if 8 ≤ (l1.length : Int) then ((examboardref12_number.f k (l1.take 8)).bind fun t237 => (if 8 ≤ (ji5) then ((examboardref12_mix.f k a0 t237 ((l1.take ((ji5) : Int).toNat).drop 8)).bind fun t239 => (some (t239, t237, 0))) else (none))) else (none)) else (some (([] : List Int), 0, 12))) = some (r1, r2, r3) := H
          have A11 := Aside0.mk A110
          clear A110
          by_cases c12 : t233 = t235
          · rw [if_pos c12] at H
            have c12b0 : (t233 == t235) = true := beq_iff_eq.mpr c12
            have c12b1 : (t233 != t235) = false := bne_eq_false_iff_eq.mpr c12
            clear c12
            by_cases c13 : 8 ≤ (l1.length : Int)
            · rw [if_pos c13] at H
              have c13b0 := eq_true c13
              have c13b1 : decide (8 ≤ (l1.length : Int)) = true := decide_eq_true c13
              clear c13
              replace H := Option.bind_eq_some_iff.mp H
              obtain ⟨t237, A140, H⟩ := H
              replace H : (if 8 ≤ (ji5) then ((examboardref12_mix.f k a0 t237 ((l1.take ((ji5) : Int).toNat).drop 8)).bind fun t239 => (some (t239, t237, 0))) else (none)) = some (r1, r2, r3) := H
              have A14 := Aside0.mk A140
              clear A140
              by_cases c15 : 8 ≤ (ji5)
              · rw [if_pos c15] at H
                have c15b0 := eq_true c15
                have c15b1 : decide (8 ≤ (ji5)) = true := decide_eq_true c15
                clear c15
                have c16b0 := eq_true (of_decide_eq_true (by first | (with_reducible assumption) | assumption) : (ji5) ≤ (l1.length : Int))
                replace H := Option.bind_eq_some_iff.mp H
                obtain ⟨t239, A170, H⟩ := H
                replace H : (some (t239, t237, 0)) = some (r1, r2, r3) := H
                have A17 := Aside0.mk A170
                clear A170
                simp only [Option.some.injEq, Prod.mk.injEq] at H
                obtain ⟨rfl, rfl, rfl⟩ := H
                obtain ⟨i018, hi018, _, hsz18, _⟩ := info_parts info5
                obtain ⟨hcut18, hA18, hC18⟩ := print_take_of (P := Try.prog) (Value.int .u8) 0 25 5 .i64 Try.underlying25 hi018 hsz18 A1 c1 l1 (ji5) (of_decide_eq_true (by first | (with_reducible assumption) | assumption)) (of_decide_eq_true (by first | (with_reducible assumption) | assumption)) HC1.out
                have HR232 := Aside0.mk (Kd.C_of_reads (h1 := fun _ => rfl) (hA18 _ (Kd.reads_of_C HR1.out)))
                have HC232 := Aside0.mk hC18
                clear hA18 hC18 hi018 hsz18
                obtain ⟨i019, hi019, _, hsz19, _⟩ := info_parts info5
                obtain ⟨A19, hcut19, hA19, hC19⟩ := print_drop_of (P := Try.prog) (Value.int .u8) 0 25 5 .i64 Try.underlying25 hi019 hsz19 A1 c1 l1 (ji5) (of_decide_eq_true (by first | (with_reducible assumption) | assumption)) (of_decide_eq_true (by first | (with_reducible assumption) | assumption)) HC1.out
                have HR234 := Aside0.mk (Kd.C_of_reads (h1 := fun _ => rfl) (hA19 _ (Kd.reads_of_C HR1.out)))
                have HC234 := Aside0.mk hC19
                clear hA19 hC19 hi019 hsz19
                obtain ⟨i020, hi020, _, hsz20, _⟩ := info_parts info5
                obtain ⟨hcut20, hA20, hC20⟩ := print_take_of (P := Try.prog) (Value.int .u8) 0 25 5 .i64 Try.underlying25 hi020 hsz20 A1 c1 l1 8 (by omega) (of_decide_eq_true (by first | (with_reducible assumption) | assumption)) HC1.out
                have HR236 := Aside0.mk (Kd.C_of_reads (h1 := fun _ => rfl) (hA20 _ (Kd.reads_of_C HR1.out)))
                have HC236 := Aside0.mk hC20
                clear hA20 hC20 hi020 hsz20
                obtain ⟨i021, hi021, _, hsz21, _⟩ := info_parts info5
                obtain ⟨A21, hcut21, hA21, hC21⟩ := print_mid_of (P := Try.prog) (Value.int .u8) 0 25 5 .i64 .i64 Try.underlying25 hi021 hsz21 A1 c1 l1 8 (ji5) (by omega) (by first | omega | exact of_decide_eq_true (by first | (with_reducible assumption) | assumption)) (of_decide_eq_true (by first | (with_reducible assumption) | assumption)) HC1.out
                have HR238 := Aside0.mk (Kd.C_of_reads (h1 := fun _ => rfl) (hA21 _ (Kd.reads_of_C HR1.out)))
                have HC238 := Aside0.mk hC21
                clear hA21 hC21 hi021 hsz21
                go_enter Try.func16, Try.ntmps16
                go_wp2_with (first | (go_at_call 28; refine calls_of_args (args' := #[.int .u64 a0, .slice A1 (l1.take ((ji5) : Int).toNat).length c1]) ?hargs ?_; (case hargs => (have h1_ : (ji5 : Int) ≤ (l1.length : Int) := of_decide_eq_true (by assumption)); (have h2_ : ¬ (l1.length < 16) := of_decide_eq_false (by assumption)); first | (rw [show (l1.take ((ji5) : Int).toNat).length = ((ji5) : Int).toNat from by rw [List.length_take]; omega]; done) | (rw [show (l1.take ((ji5) : Int).toNat).length = ((ji5) : Int).toNat from by rw [List.length_take]; omega]; rfl)); (with_reducible refine (examboardref11_Chain.calls k a0 _ _ (l1.take ((ji5) : Int).toNat) t233 _ ?side1 ?side2 A8.out).mono ?_); (case side1 => repeat (first | exact HR232.out | (with_reducible refine Kd.C_alloc ?_ _) | (with_reducible refine Kd.C_drewN ?_ _) | (with_reducible refine Kd.C_drew ?_))); (case side2 => exact HC232.out); rintro e w' ⟨rfl, ⟨nd, rfl⟩⟩; (try first | exact ⟨rfl, _, World.drewN_drewN _ _ _⟩ | exact ⟨rfl, _, Eq.trans (World.drewN_drewN _ _ _) (congrArg (World.drewN _) (Nat.add_assoc _ _ _))⟩)) | (go_at_call 30; refine calls_of_args (args' := #[.slice A19 (l1.drop ((ji5) : Int).toNat).length (c1 - ((ji5) : Int).toNat)]) ?hargs ?_; (case hargs => (have h1_ : (ji5 : Int) ≤ (l1.length : Int) := of_decide_eq_true (by assumption)); (have h2_ : ¬ (l1.length < 16) := of_decide_eq_false (by assumption)); first | (rw [show (l1.drop ((ji5) : Int).toNat).length = l1.length - ((ji5) : Int).toNat from List.length_drop]; done) | (rw [show (l1.drop ((ji5) : Int).toNat).length = l1.length - ((ji5) : Int).toNat from List.length_drop]; rfl)); (with_reducible refine (examboardref12_number.calls k _ _ (l1.drop ((ji5) : Int).toNat) t235 _ ?side1 ?side2 A11.out).mono ?_); (case side1 => repeat (first | exact HR234.out | (with_reducible refine Kd.C_alloc ?_ _) | (with_reducible refine Kd.C_drewN ?_ _) | (with_reducible refine Kd.C_drew ?_))); (case side2 => exact HC234.out); rintro e w' ⟨rfl, ⟨nd, rfl⟩⟩; (try first | exact ⟨rfl, _, World.drewN_drewN _ _ _⟩ | exact ⟨rfl, _, Eq.trans (World.drewN_drewN _ _ _) (congrArg (World.drewN _) (Nat.add_assoc _ _ _))⟩)) | (go_at_call 30; refine calls_of_args (args' := #[.slice A1 (l1.take 8).length c1]) ?hargs ?_; (case hargs => (have h1_ : (ji5 : Int) ≤ (l1.length : Int) := of_decide_eq_true (by assumption)); (have h2_ : ¬ (l1.length < 16) := of_decide_eq_false (by assumption)); first | (rw [show (l1.take 8).length = min 8 l1.length from List.length_take]; done) | (rw [show (l1.take 8).length = min 8 l1.length from List.length_take]; rfl)); (with_reducible refine (examboardref12_number.calls k _ _ (l1.take 8) t237 _ ?side1 ?side2 A14.out).mono ?_); (case side1 => repeat (first | exact HR236.out | (with_reducible refine Kd.C_alloc ?_ _) | (with_reducible refine Kd.C_drewN ?_ _) | (with_reducible refine Kd.C_drew ?_))); (case side2 => exact HC236.out); rintro e w' ⟨rfl, ⟨nd, rfl⟩⟩; (try first | exact ⟨rfl, _, World.drewN_drewN _ _ _⟩ | exact ⟨rfl, _, Eq.trans (World.drewN_drewN _ _ _) (congrArg (World.drewN _) (Nat.add_assoc _ _ _))⟩)) | (go_at_call 27; refine calls_of_args (args' := #[.int .u64 a0, .int .u64 t237, .slice A21 ((l1.take ((ji5) : Int).toNat).drop 8).length (c1 - 8)]) ?hargs ?_; (case hargs => (have h1_ : (ji5 : Int) ≤ (l1.length : Int) := of_decide_eq_true (by assumption)); (have h2_ : ¬ (l1.length < 16) := of_decide_eq_false (by assumption)); first | (rw [show ((l1.take ((ji5) : Int).toNat).drop 8).length = ((ji5) : Int).toNat - 8 from by rw [List.length_drop, List.length_take]; omega]; done) | (rw [show ((l1.take ((ji5) : Int).toNat).drop 8).length = ((ji5) : Int).toNat - 8 from by rw [List.length_drop, List.length_take]; omega]; rfl)); (with_reducible refine (examboardref12_mix.calls k a0 t237 _ _ ((l1.take ((ji5) : Int).toNat).drop 8) t239 _ ?side1 ?side2 A17.out).mono ?_); (case side1 => repeat (first | exact HR238.out | (with_reducible refine Kd.C_alloc ?_ _) | (with_reducible refine Kd.C_drewN ?_ _) | (with_reducible refine Kd.C_drew ?_))); (case side2 => exact HC238.out); rintro e w22 ⟨v240, rfl, ho0, hb⟩; have n0_ := Aside0.mk (Kd.R_lower ho0 (below_size (by repeat (first | (with_reducible first | exact HB.out | apply below_alloc | apply pw_below_drewN | apply below_drew1) | exact HB.out)))); have n1_ := Aside0.mk (below_step (by repeat (first | (with_reducible first | exact HB.out | apply below_alloc | apply pw_below_drewN | apply below_drew1) | exact HB.out)) hb); clear HB; have HO241 := n0_; have HB := n1_; clear n0_ n1_; (try clear hb); (try clear hb2); (try clear hk); (try clear hi); (try clear ho0)))
                repeat (go_quiet (first | (go_at_call 28; refine calls_of_args (args' := #[.int .u64 a0, .slice A1 (l1.take ((ji5) : Int).toNat).length c1]) ?hargs ?_; (case hargs => (have h1_ : (ji5 : Int) ≤ (l1.length : Int) := of_decide_eq_true (by assumption)); (have h2_ : ¬ (l1.length < 16) := of_decide_eq_false (by assumption)); first | (rw [show (l1.take ((ji5) : Int).toNat).length = ((ji5) : Int).toNat from by rw [List.length_take]; omega]; done) | (rw [show (l1.take ((ji5) : Int).toNat).length = ((ji5) : Int).toNat from by rw [List.length_take]; omega]; rfl)); (with_reducible refine (examboardref11_Chain.calls k a0 _ _ (l1.take ((ji5) : Int).toNat) t233 _ ?side1 ?side2 A8.out).mono ?_); (case side1 => repeat (first | exact HR232.out | (with_reducible refine Kd.C_alloc ?_ _) | (with_reducible refine Kd.C_drewN ?_ _) | (with_reducible refine Kd.C_drew ?_))); (case side2 => exact HC232.out); rintro e w' ⟨rfl, ⟨nd, rfl⟩⟩; (try first | exact ⟨rfl, _, World.drewN_drewN _ _ _⟩ | exact ⟨rfl, _, Eq.trans (World.drewN_drewN _ _ _) (congrArg (World.drewN _) (Nat.add_assoc _ _ _))⟩)) | (go_at_call 30; refine calls_of_args (args' := #[.slice A19 (l1.drop ((ji5) : Int).toNat).length (c1 - ((ji5) : Int).toNat)]) ?hargs ?_; (case hargs => (have h1_ : (ji5 : Int) ≤ (l1.length : Int) := of_decide_eq_true (by assumption)); (have h2_ : ¬ (l1.length < 16) := of_decide_eq_false (by assumption)); first | (rw [show (l1.drop ((ji5) : Int).toNat).length = l1.length - ((ji5) : Int).toNat from List.length_drop]; done) | (rw [show (l1.drop ((ji5) : Int).toNat).length = l1.length - ((ji5) : Int).toNat from List.length_drop]; rfl)); (with_reducible refine (examboardref12_number.calls k _ _ (l1.drop ((ji5) : Int).toNat) t235 _ ?side1 ?side2 A11.out).mono ?_); (case side1 => repeat (first | exact HR234.out | (with_reducible refine Kd.C_alloc ?_ _) | (with_reducible refine Kd.C_drewN ?_ _) | (with_reducible refine Kd.C_drew ?_))); (case side2 => exact HC234.out); rintro e w' ⟨rfl, ⟨nd, rfl⟩⟩; (try first | exact ⟨rfl, _, World.drewN_drewN _ _ _⟩ | exact ⟨rfl, _, Eq.trans (World.drewN_drewN _ _ _) (congrArg (World.drewN _) (Nat.add_assoc _ _ _))⟩)) | (go_at_call 30; refine calls_of_args (args' := #[.slice A1 (l1.take 8).length c1]) ?hargs ?_; (case hargs => (have h1_ : (ji5 : Int) ≤ (l1.length : Int) := of_decide_eq_true (by assumption)); (have h2_ : ¬ (l1.length < 16) := of_decide_eq_false (by assumption)); first | (rw [show (l1.take 8).length = min 8 l1.length from List.length_take]; done) | (rw [show (l1.take 8).length = min 8 l1.length from List.length_take]; rfl)); (with_reducible refine (examboardref12_number.calls k _ _ (l1.take 8) t237 _ ?side1 ?side2 A14.out).mono ?_); (case side1 => repeat (first | exact HR236.out | (with_reducible refine Kd.C_alloc ?_ _) | (with_reducible refine Kd.C_drewN ?_ _) | (with_reducible refine Kd.C_drew ?_))); (case side2 => exact HC236.out); rintro e w' ⟨rfl, ⟨nd, rfl⟩⟩; (try first | exact ⟨rfl, _, World.drewN_drewN _ _ _⟩ | exact ⟨rfl, _, Eq.trans (World.drewN_drewN _ _ _) (congrArg (World.drewN _) (Nat.add_assoc _ _ _))⟩)) | (go_at_call 27; refine calls_of_args (args' := #[.int .u64 a0, .int .u64 t237, .slice A21 ((l1.take ((ji5) : Int).toNat).drop 8).length (c1 - 8)]) ?hargs ?_; (case hargs => (have h1_ : (ji5 : Int) ≤ (l1.length : Int) := of_decide_eq_true (by assumption)); (have h2_ : ¬ (l1.length < 16) := of_decide_eq_false (by assumption)); first | (rw [show ((l1.take ((ji5) : Int).toNat).drop 8).length = ((ji5) : Int).toNat - 8 from by rw [List.length_drop, List.length_take]; omega]; done) | (rw [show ((l1.take ((ji5) : Int).toNat).drop 8).length = ((ji5) : Int).toNat - 8 from by rw [List.length_drop, List.length_take]; omega]; rfl)); (with_reducible refine (examboardref12_mix.calls k a0 t237 _ _ ((l1.take ((ji5) : Int).toNat).drop 8) t239 _ ?side1 ?side2 A17.out).mono ?_); (case side1 => repeat (first | exact HR238.out | (with_reducible refine Kd.C_alloc ?_ _) | (with_reducible refine Kd.C_drewN ?_ _) | (with_reducible refine Kd.C_drew ?_))); (case side2 => exact HC238.out); rintro e w22 ⟨v240, rfl, ho0, hb⟩; have n0_ := Aside0.mk (Kd.R_lower ho0 (below_size (by repeat (first | (with_reducible first | exact HB.out | apply below_alloc | apply pw_below_drewN | apply below_drew1) | exact HB.out)))); have n1_ := Aside0.mk (below_step (by repeat (first | (with_reducible first | exact HB.out | apply below_alloc | apply pw_below_drewN | apply below_drew1) | exact HB.out)) hb); clear HB; have HO241 := n0_; have HB := n1_; clear n0_ n1_; (try clear hb); (try clear hb2); (try clear hk); (try clear hi); (try clear ho0))); try go_wp2_with (first | (go_at_call 28; refine calls_of_args (args' := #[.int .u64 a0, .slice A1 (l1.take ((ji5) : Int).toNat).length c1]) ?hargs ?_; (case hargs => (have h1_ : (ji5 : Int) ≤ (l1.length : Int) := of_decide_eq_true (by assumption)); (have h2_ : ¬ (l1.length < 16) := of_decide_eq_false (by assumption)); first | (rw [show (l1.take ((ji5) : Int).toNat).length = ((ji5) : Int).toNat from by rw [List.length_take]; omega]; done) | (rw [show (l1.take ((ji5) : Int).toNat).length = ((ji5) : Int).toNat from by rw [List.length_take]; omega]; rfl)); (with_reducible refine (examboardref11_Chain.calls k a0 _ _ (l1.take ((ji5) : Int).toNat) t233 _ ?side1 ?side2 A8.out).mono ?_); (case side1 => repeat (first | exact HR232.out | (with_reducible refine Kd.C_alloc ?_ _) | (with_reducible refine Kd.C_drewN ?_ _) | (with_reducible refine Kd.C_drew ?_))); (case side2 => exact HC232.out); rintro e w' ⟨rfl, ⟨nd, rfl⟩⟩; (try first | exact ⟨rfl, _, World.drewN_drewN _ _ _⟩ | exact ⟨rfl, _, Eq.trans (World.drewN_drewN _ _ _) (congrArg (World.drewN _) (Nat.add_assoc _ _ _))⟩)) | (go_at_call 30; refine calls_of_args (args' := #[.slice A19 (l1.drop ((ji5) : Int).toNat).length (c1 - ((ji5) : Int).toNat)]) ?hargs ?_; (case hargs => (have h1_ : (ji5 : Int) ≤ (l1.length : Int) := of_decide_eq_true (by assumption)); (have h2_ : ¬ (l1.length < 16) := of_decide_eq_false (by assumption)); first | (rw [show (l1.drop ((ji5) : Int).toNat).length = l1.length - ((ji5) : Int).toNat from List.length_drop]; done) | (rw [show (l1.drop ((ji5) : Int).toNat).length = l1.length - ((ji5) : Int).toNat from List.length_drop]; rfl)); (with_reducible refine (examboardref12_number.calls k _ _ (l1.drop ((ji5) : Int).toNat) t235 _ ?side1 ?side2 A11.out).mono ?_); (case side1 => repeat (first | exact HR234.out | (with_reducible refine Kd.C_alloc ?_ _) | (with_reducible refine Kd.C_drewN ?_ _) | (with_reducible refine Kd.C_drew ?_))); (case side2 => exact HC234.out); rintro e w' ⟨rfl, ⟨nd, rfl⟩⟩; (try first | exact ⟨rfl, _, World.drewN_drewN _ _ _⟩ | exact ⟨rfl, _, Eq.trans (World.drewN_drewN _ _ _) (congrArg (World.drewN _) (Nat.add_assoc _ _ _))⟩)) | (go_at_call 30; refine calls_of_args (args' := #[.slice A1 (l1.take 8).length c1]) ?hargs ?_; (case hargs => (have h1_ : (ji5 : Int) ≤ (l1.length : Int) := of_decide_eq_true (by assumption)); (have h2_ : ¬ (l1.length < 16) := of_decide_eq_false (by assumption)); first | (rw [show (l1.take 8).length = min 8 l1.length from List.length_take]; done) | (rw [show (l1.take 8).length = min 8 l1.length from List.length_take]; rfl)); (with_reducible refine (examboardref12_number.calls k _ _ (l1.take 8) t237 _ ?side1 ?side2 A14.out).mono ?_); (case side1 => repeat (first | exact HR236.out | (with_reducible refine Kd.C_alloc ?_ _) | (with_reducible refine Kd.C_drewN ?_ _) | (with_reducible refine Kd.C_drew ?_))); (case side2 => exact HC236.out); rintro e w' ⟨rfl, ⟨nd, rfl⟩⟩; (try first | exact ⟨rfl, _, World.drewN_drewN _ _ _⟩ | exact ⟨rfl, _, Eq.trans (World.drewN_drewN _ _ _) (congrArg (World.drewN _) (Nat.add_assoc _ _ _))⟩)) | (go_at_call 27; refine calls_of_args (args' := #[.int .u64 a0, .int .u64 t237, .slice A21 ((l1.take ((ji5) : Int).toNat).drop 8).length (c1 - 8)]) ?hargs ?_; (case hargs => (have h1_ : (ji5 : Int) ≤ (l1.length : Int) := of_decide_eq_true (by assumption)); (have h2_ : ¬ (l1.length < 16) := of_decide_eq_false (by assumption)); first | (rw [show ((l1.take ((ji5) : Int).toNat).drop 8).length = ((ji5) : Int).toNat - 8 from by rw [List.length_drop, List.length_take]; omega]; done) | (rw [show ((l1.take ((ji5) : Int).toNat).drop 8).length = ((ji5) : Int).toNat - 8 from by rw [List.length_drop, List.length_take]; omega]; rfl)); (with_reducible refine (examboardref12_mix.calls k a0 t237 _ _ ((l1.take ((ji5) : Int).toNat).drop 8) t239 _ ?side1 ?side2 A17.out).mono ?_); (case side1 => repeat (first | exact HR238.out | (with_reducible refine Kd.C_alloc ?_ _) | (with_reducible refine Kd.C_drewN ?_ _) | (with_reducible refine Kd.C_drew ?_))); (case side2 => exact HC238.out); rintro e w22 ⟨v240, rfl, ho0, hb⟩; have n0_ := Aside0.mk (Kd.R_lower ho0 (below_size (by repeat (first | (with_reducible first | exact HB.out | apply below_alloc | apply pw_below_drewN | apply below_drew1) | exact HB.out)))); have n1_ := Aside0.mk (below_step (by repeat (first | (with_reducible first | exact HB.out | apply below_alloc | apply pw_below_drewN | apply below_drew1) | exact HB.out)) hb); clear HB; have HO241 := n0_; have HB := n1_; clear n0_ n1_; (try clear hb); (try clear hb2); (try clear hk); (try clear hi); (try clear ho0))))
                go_ret3
                exact ⟨_, by first | rfl | (simp [errW_none, errW_some] <;> rfl) | (simp only [← hji5]; first | rfl | (simp [errW_none, errW_some] <;> rfl)) | (simp [*, errW_none, errW_some] <;> rfl), by (with_reducible repeat (first | apply Kd.R_alloc | apply Kd.R_drewN | apply Kd.R_drew)); exact HO241.out, by repeat (first | (with_reducible first | exact HB.out | apply below_alloc | apply pw_below_drewN | apply below_drew1) | exact HB.out)⟩
              · rw [if_neg c15] at H
                exact absurd H (by simp)
            · rw [if_neg c13] at H
              exact absurd H (by simp)
          · rw [if_neg c12] at H
            have c12b0 : (t233 == t235) = false := beq_eq_false_iff_ne.mpr c12
            have c12b1 : (t233 != t235) = true := bne_iff_ne.mpr c12
            simp only [Option.some.injEq, Prod.mk.injEq] at H
            obtain ⟨rfl, rfl, rfl⟩ := H
            obtain ⟨i023, hi023, _, hsz23, _⟩ := info_parts info5
            obtain ⟨hcut23, hA23, hC23⟩ := print_take_of (P := Try.prog) (Value.int .u8) 0 25 5 .i64 Try.underlying25 hi023 hsz23 A1 c1 l1 (ji5) (of_decide_eq_true (by first | (with_reducible assumption) | assumption)) (of_decide_eq_true (by first | (with_reducible assumption) | assumption)) HC1.out
            have HR232 := Aside0.mk (Kd.C_of_reads (h1 := fun _ => rfl) (hA23 _ (Kd.reads_of_C HR1.out)))
            have HC232 := Aside0.mk hC23
            clear hA23 hC23 hi023 hsz23
            obtain ⟨i024, hi024, _, hsz24, _⟩ := info_parts info5
            obtain ⟨A24, hcut24, hA24, hC24⟩ := print_drop_of (P := Try.prog) (Value.int .u8) 0 25 5 .i64 Try.underlying25 hi024 hsz24 A1 c1 l1 (ji5) (of_decide_eq_true (by first | (with_reducible assumption) | assumption)) (of_decide_eq_true (by first | (with_reducible assumption) | assumption)) HC1.out
            have HR234 := Aside0.mk (Kd.C_of_reads (h1 := fun _ => rfl) (hA24 _ (Kd.reads_of_C HR1.out)))
            have HC234 := Aside0.mk hC24
            clear hA24 hC24 hi024 hsz24
            go_enter Try.func16, Try.ntmps16
            go_wp2_with (first | (go_at_call 28; refine calls_of_args (args' := #[.int .u64 a0, .slice A1 (l1.take ((ji5) : Int).toNat).length c1]) ?hargs ?_; (case hargs => (have h1_ : (ji5 : Int) ≤ (l1.length : Int) := of_decide_eq_true (by assumption)); (have h2_ : ¬ (l1.length < 16) := of_decide_eq_false (by assumption)); first | (rw [show (l1.take ((ji5) : Int).toNat).length = ((ji5) : Int).toNat from by rw [List.length_take]; omega]; done) | (rw [show (l1.take ((ji5) : Int).toNat).length = ((ji5) : Int).toNat from by rw [List.length_take]; omega]; rfl)); (with_reducible refine (examboardref11_Chain.calls k a0 _ _ (l1.take ((ji5) : Int).toNat) t233 _ ?side1 ?side2 A8.out).mono ?_); (case side1 => repeat (first | exact HR232.out | (with_reducible refine Kd.C_alloc ?_ _) | (with_reducible refine Kd.C_drewN ?_ _) | (with_reducible refine Kd.C_drew ?_))); (case side2 => exact HC232.out); rintro e w' ⟨rfl, ⟨nd, rfl⟩⟩; (try first | exact ⟨rfl, _, World.drewN_drewN _ _ _⟩ | exact ⟨rfl, _, Eq.trans (World.drewN_drewN _ _ _) (congrArg (World.drewN _) (Nat.add_assoc _ _ _))⟩)) | (go_at_call 30; refine calls_of_args (args' := #[.slice A24 (l1.drop ((ji5) : Int).toNat).length (c1 - ((ji5) : Int).toNat)]) ?hargs ?_; (case hargs => (have h1_ : (ji5 : Int) ≤ (l1.length : Int) := of_decide_eq_true (by assumption)); (have h2_ : ¬ (l1.length < 16) := of_decide_eq_false (by assumption)); first | (rw [show (l1.drop ((ji5) : Int).toNat).length = l1.length - ((ji5) : Int).toNat from List.length_drop]; done) | (rw [show (l1.drop ((ji5) : Int).toNat).length = l1.length - ((ji5) : Int).toNat from List.length_drop]; rfl)); (with_reducible refine (examboardref12_number.calls k _ _ (l1.drop ((ji5) : Int).toNat) t235 _ ?side1 ?side2 A11.out).mono ?_); (case side1 => repeat (first | exact HR234.out | (with_reducible refine Kd.C_alloc ?_ _) | (with_reducible refine Kd.C_drewN ?_ _) | (with_reducible refine Kd.C_drew ?_))); (case side2 => exact HC234.out); rintro e w' ⟨rfl, ⟨nd, rfl⟩⟩; (try first | exact ⟨rfl, _, World.drewN_drewN _ _ _⟩ | exact ⟨rfl, _, Eq.trans (World.drewN_drewN _ _ _) (congrArg (World.drewN _) (Nat.add_assoc _ _ _))⟩)))
            repeat (go_quiet (first | (go_at_call 28; refine calls_of_args (args' := #[.int .u64 a0, .slice A1 (l1.take ((ji5) : Int).toNat).length c1]) ?hargs ?_; (case hargs => (have h1_ : (ji5 : Int) ≤ (l1.length : Int) := of_decide_eq_true (by assumption)); (have h2_ : ¬ (l1.length < 16) := of_decide_eq_false (by assumption)); first | (rw [show (l1.take ((ji5) : Int).toNat).length = ((ji5) : Int).toNat from by rw [List.length_take]; omega]; done) | (rw [show (l1.take ((ji5) : Int).toNat).length = ((ji5) : Int).toNat from by rw [List.length_take]; omega]; rfl)); (with_reducible refine (examboardref11_Chain.calls k a0 _ _ (l1.take ((ji5) : Int).toNat) t233 _ ?side1 ?side2 A8.out).mono ?_); (case side1 => repeat (first | exact HR232.out | (with_reducible refine Kd.C_alloc ?_ _) | (with_reducible refine Kd.C_drewN ?_ _) | (with_reducible refine Kd.C_drew ?_))); (case side2 => exact HC232.out); rintro e w' ⟨rfl, ⟨nd, rfl⟩⟩; (try first | exact ⟨rfl, _, World.drewN_drewN _ _ _⟩ | exact ⟨rfl, _, Eq.trans (World.drewN_drewN _ _ _) (congrArg (World.drewN _) (Nat.add_assoc _ _ _))⟩)) | (go_at_call 30; refine calls_of_args (args' := #[.slice A24 (l1.drop ((ji5) : Int).toNat).length (c1 - ((ji5) : Int).toNat)]) ?hargs ?_; (case hargs => (have h1_ : (ji5 : Int) ≤ (l1.length : Int) := of_decide_eq_true (by assumption)); (have h2_ : ¬ (l1.length < 16) := of_decide_eq_false (by assumption)); first | (rw [show (l1.drop ((ji5) : Int).toNat).length = l1.length - ((ji5) : Int).toNat from List.length_drop]; done) | (rw [show (l1.drop ((ji5) : Int).toNat).length = l1.length - ((ji5) : Int).toNat from List.length_drop]; rfl)); (with_reducible refine (examboardref12_number.calls k _ _ (l1.drop ((ji5) : Int).toNat) t235 _ ?side1 ?side2 A11.out).mono ?_); (case side1 => repeat (first | exact HR234.out | (with_reducible refine Kd.C_alloc ?_ _) | (with_reducible refine Kd.C_drewN ?_ _) | (with_reducible refine Kd.C_drew ?_))); (case side2 => exact HC234.out); rintro e w' ⟨rfl, ⟨nd, rfl⟩⟩; (try first | exact ⟨rfl, _, World.drewN_drewN _ _ _⟩ | exact ⟨rfl, _, Eq.trans (World.drewN_drewN _ _ _) (congrArg (World.drewN _) (Nat.add_assoc _ _ _))⟩))); try go_wp2_with (first | (go_at_call 28; refine calls_of_args (args' := #[.int .u64 a0, .slice A1 (l1.take ((ji5) : Int).toNat).length c1]) ?hargs ?_; (case hargs => (have h1_ : (ji5 : Int) ≤ (l1.length : Int) := of_decide_eq_true (by assumption)); (have h2_ : ¬ (l1.length < 16) := of_decide_eq_false (by assumption)); first | (rw [show (l1.take ((ji5) : Int).toNat).length = ((ji5) : Int).toNat from by rw [List.length_take]; omega]; done) | (rw [show (l1.take ((ji5) : Int).toNat).length = ((ji5) : Int).toNat from by rw [List.length_take]; omega]; rfl)); (with_reducible refine (examboardref11_Chain.calls k a0 _ _ (l1.take ((ji5) : Int).toNat) t233 _ ?side1 ?side2 A8.out).mono ?_); (case side1 => repeat (first | exact HR232.out | (with_reducible refine Kd.C_alloc ?_ _) | (with_reducible refine Kd.C_drewN ?_ _) | (with_reducible refine Kd.C_drew ?_))); (case side2 => exact HC232.out); rintro e w' ⟨rfl, ⟨nd, rfl⟩⟩; (try first | exact ⟨rfl, _, World.drewN_drewN _ _ _⟩ | exact ⟨rfl, _, Eq.trans (World.drewN_drewN _ _ _) (congrArg (World.drewN _) (Nat.add_assoc _ _ _))⟩)) | (go_at_call 30; refine calls_of_args (args' := #[.slice A24 (l1.drop ((ji5) : Int).toNat).length (c1 - ((ji5) : Int).toNat)]) ?hargs ?_; (case hargs => (have h1_ : (ji5 : Int) ≤ (l1.length : Int) := of_decide_eq_true (by assumption)); (have h2_ : ¬ (l1.length < 16) := of_decide_eq_false (by assumption)); first | (rw [show (l1.drop ((ji5) : Int).toNat).length = l1.length - ((ji5) : Int).toNat from List.length_drop]; done) | (rw [show (l1.drop ((ji5) : Int).toNat).length = l1.length - ((ji5) : Int).toNat from List.length_drop]; rfl)); (with_reducible refine (examboardref12_number.calls k _ _ (l1.drop ((ji5) : Int).toNat) t235 _ ?side1 ?side2 A11.out).mono ?_); (case side1 => repeat (first | exact HR234.out | (with_reducible refine Kd.C_alloc ?_ _) | (with_reducible refine Kd.C_drewN ?_ _) | (with_reducible refine Kd.C_drew ?_))); (case side2 => exact HC234.out); rintro e w' ⟨rfl, ⟨nd, rfl⟩⟩; (try first | exact ⟨rfl, _, World.drewN_drewN _ _ _⟩ | exact ⟨rfl, _, Eq.trans (World.drewN_drewN _ _ _) (congrArg (World.drewN _) (Nat.add_assoc _ _ _))⟩))))
            go_ret3
            exact ⟨_, by first | rfl | (simp [errW_none, errW_some] <;> rfl) | (simp only [← hji5]; first | rfl | (simp [errW_none, errW_some] <;> rfl)) | (simp [*, errW_none, errW_some] <;> rfl), by first | exact Kd.R_nil _ _ _ _ _ | exact Kd.N_nil _ _ _ _ _ | exact Kd.V_nil _ _ _ _ _ | exact Kd.Q_nil _ _ _ _ _ | exact Kd.S_nil _ _ _ _ _, by repeat (first | (with_reducible first | exact HB.out | apply below_alloc | apply pw_below_drewN | apply below_drew1) | exact HB.out)⟩
        · rw [if_neg c7] at H
          exact absurd H (by simp)
      · rw [if_neg c6] at H
        exact absurd H (by simp)

/-! ### examboardlaw12_CipherOpens: function 6 -/
def examboardlaw12_CipherOpens.f (k : Nat) (a0 : Int) (l1 : List Int) : Option (Bool) := (examboardlaw12_middling.f (l1.length : Int) 1048592).bind fun t242 => (if t242 = true then (some true) else ((cipher_Open.f k a0 l1).bind fun bt243 => ((examboardref12_Open.f k a0 l1).bind fun bt248 => ((examboardlaw12_same.f k bt243.1 bt248.1).bind fun t253 => (if t253 = true then (if bt243.2.1 = bt248.2.1 then (some (bt243.2.2 == bt248.2.2)) else (some false)) else (some false))))))
theorem examboardlaw12_CipherOpens.mono : ∀ a0 a1 k, LeO (examboardlaw12_CipherOpens.f k a0 a1) (examboardlaw12_CipherOpens.f (k + 1) a0 a1) := by
  intro a0 a1 k
  unfold examboardlaw12_CipherOpens.f
  repeat' first
      | (with_reducible exact cipher_Open.mono _ _ _)
      | (with_reducible exact examboardlaw12_same.mono _ _ _)
      | (with_reducible exact examboardref12_Open.mono _ _ _)
      | (with_reducible exact LeO.refl _)
      | (with_reducible exact LeO.none _)
      | (with_reducible refine LeO.ite ?_ ?_)
      | (with_reducible refine LeO.bind ?_ (fun _ => ?_))
      | exact cipher_Open.mono _ _ _
      | exact examboardlaw12_same.mono _ _ _
      | exact examboardref12_Open.mono _ _ _
      | exact LeO.none _
      | refine LeO.ite ?_ ?_
      | refine LeO.bind ?_ (fun _ => ?_)
set_option maxHeartbeats 8000000 in
set_option maxRecDepth 100000 in
theorem examboardlaw12_CipherOpens.calls (k : Nat) (a0 : Int) (A1 : Option Addr) (c1 : Nat) (l1 : List Int) (r : Bool) (w : World) (hr1 : Kd.C (Kd.int .u8) w A1 l1.length l1) (hc1 : l1.length ≤ c1) (h : examboardlaw12_CipherOpens.f k a0 l1 = some r) :
    Calls Try.prog 6 #[.int .u64 a0, .slice A1 l1.length c1] w fun e w' => e = .returned (.bool r) ∧ Below w.heap.size w w' := by
  have HR1 := Aside0.mk hr1
  have HC1 := Aside0.mk hc1
  clear hr1 hc1
  have HB := Aside0.mk (Below.refl w.heap.size w)
  have H : ((examboardlaw12_middling.f (l1.length : Int) 1048592).bind fun t242 => (if t242 = true then (some true) else ((cipher_Open.f k a0 l1).bind fun bt243 => ((examboardref12_Open.f k a0 l1).bind fun bt248 => ((examboardlaw12_same.f k bt243.1 bt248.1).bind fun t253 => (if t253 = true then (if bt243.2.1 = bt248.2.1 then (some (bt243.2.2 == bt248.2.2)) else (some false)) else (some false))))))) = some r := h
  clear h
  replace H := Option.bind_eq_some_iff.mp H
  obtain ⟨t242, A30, H⟩ := H
  replace H : (if t242 = true then (some true) else ((cipher_Open.f k a0 l1).bind fun bt243 => ((examboardref12_Open.f k a0 l1).bind fun bt248 => ((examboardlaw12_same.f k bt243.1 bt248.1).bind fun t253 => (if t253 = true then (if bt243.2.1 = bt248.2.1 then (some (bt243.2.2 == bt248.2.2)) else (some false)) else (some false)))))) = some r := H
  have A3 := Aside0.mk A30
  clear A30
  by_cases c4 : t242 = true
  · subst c4
    have H1 : (some true) = some r := by rw [if_pos rfl] at H; exact H
    clear H
    have H := H1
    clear H1
    obtain rfl := Option.some.inj H
    go_enter Try.func6, Try.ntmps6
    go_wp2_with (first | ((with_reducible refine gate_callee (f := 11) rfl ?_); refine goesL_ (some 13) rfl rfl Try.func11 (by kernel_rfl) rfl #[.int .i64 (l1.length : Int), .int .i64 1048592] rfl (by (try simp only [List.map_toArray, List.map_cons, List.map_nil]); first | done | rfl | (simp only [List.length_drop, List.length_take]; rfl)) ?_; (with_reducible refine (examboardlaw12_middling.calls (l1.length : Int) 1048592 true _ A3.out).mono ?_); rintro e w' ⟨rfl, ⟨nd, rfl⟩⟩; refine ⟨_, rfl, ?_⟩))
    go_ret
    exact ⟨by first | rfl | (simp [errW_none, errW_some] <;> rfl) | (simp [*, errW_none, errW_some] <;> rfl), by repeat (first | (with_reducible first | exact HB.out | apply below_alloc | apply pw_below_drewN | apply below_drew1) | exact HB.out)⟩
  · replace c4 := Bool.eq_false_iff.mpr c4
    subst c4
    have H1 : ((cipher_Open.f k a0 l1).bind fun bt243 => ((examboardref12_Open.f k a0 l1).bind fun bt248 => ((examboardlaw12_same.f k bt243.1 bt248.1).bind fun t253 => (if t253 = true then (if bt243.2.1 = bt248.2.1 then (some (bt243.2.2 == bt248.2.2)) else (some false)) else (some false))))) = some r := by rw [if_neg (show ¬ (false = true) by decide)] at H; exact H
    clear H
    have H := H1
    clear H1
    replace H := Option.bind_eq_some_iff.mp H
    obtain ⟨⟨t243, t244, t245⟩, A50, H⟩ := H
    replace H : ((examboardref12_Open.f k a0 l1).bind fun bt248 => ((examboardlaw12_same.f k t243 bt248.1).bind fun t253 => (if t253 = true then (if t244 = bt248.2.1 then (some (t245 == bt248.2.2)) else (some false)) else (some false)))) = some r := H
    have A5 := Aside0.mk A50
    clear A50
    replace H := Option.bind_eq_some_iff.mp H
    obtain ⟨⟨t248, t249, t250⟩, A60, H⟩ := H
    replace H : ((examboardlaw12_same.f k t243 t248).bind fun t253 => (if t253 = true then (if t244 = t249 then (some (t245 == t250)) else (some false)) else (some false))) = some r := H
    have A6 := Aside0.mk A60
    clear A60
    replace H := Option.bind_eq_some_iff.mp H
    obtain ⟨t253, A70, H⟩ := H
    replace H : (if t253 = true then (if t244 = t249 then (some (t245 == t250)) else (some false)) else (some false)) = some r := H
    have A7 := Aside0.mk A70
    clear A70
    by_cases c8 : t253 = true
    · subst c8
      have H1 : (if t244 = t249 then (some (t245 == t250)) else (some false)) = some r := by rw [if_pos rfl] at H; exact H
      clear H
      have H := H1
      clear H1
      by_cases c9 : t244 = t249
      · rw [if_pos c9] at H
        have c9b0 : (t244 == t249) = true := beq_iff_eq.mpr c9
        have c9b1 : (t244 != t249) = false := bne_eq_false_iff_eq.mpr c9
        clear c9
        obtain rfl := Option.some.inj H
        go_enter Try.func6, Try.ntmps6
        go_wp2_with (first | ((with_reducible refine gate_callee (f := 11) rfl ?_); refine goesL_ (some 13) rfl rfl Try.func11 (by kernel_rfl) rfl #[.int .i64 (l1.length : Int), .int .i64 1048592] rfl (by (try simp only [List.map_toArray, List.map_cons, List.map_nil]); first | done | rfl | (simp only [List.length_drop, List.length_take]; rfl)) ?_; (with_reducible refine (examboardlaw12_middling.calls (l1.length : Int) 1048592 false _ A3.out).mono ?_); rintro e w' ⟨rfl, ⟨nd, rfl⟩⟩; refine ⟨_, rfl, ?_⟩) | ((with_reducible refine gate_callee (f := 15) rfl ?_); refine goesL_ (some 17) rfl rfl Try.func15 (by kernel_rfl) rfl #[.int .u64 a0, .slice A1 l1.length c1] rfl (by (try simp only [List.map_toArray, List.map_cons, List.map_nil]); first | done | rfl | (simp only [List.length_drop, List.length_take]; rfl)) ?_; (with_reducible refine (cipher_Open.calls k a0 _ _ l1 t243 t244 t245 _ ?side1 ?side2 A5.out).mono ?_); (case side1 => repeat (first | exact HR1.out | (with_reducible refine Kd.C_alloc ?_ _) | (with_reducible refine Kd.C_drewN ?_ _) | (with_reducible refine Kd.C_drew ?_))); (case side2 => exact HC1.out); rintro e w10 ⟨v246, rfl, ho0, hb⟩; refine ⟨_, rfl, ?_⟩; have n0_ := Aside0.mk (Kd.R_lower ho0 (below_size (by repeat (first | (with_reducible first | exact HB.out | apply below_alloc | apply pw_below_drewN | apply below_drew1) | exact HB.out)))); have n1_ := Aside0.mk (below_step (by repeat (first | (with_reducible first | exact HB.out | apply below_alloc | apply pw_below_drewN | apply below_drew1) | exact HB.out)) hb); clear HB; have HO247 := n0_; have HB := n1_; clear n0_ n1_; (try clear hb); (try clear hb2); (try clear hk); (try clear hi); (try clear ho0)) | ((with_reducible refine gate_callee (f := 16) rfl ?_); refine goesL_ (some 24) rfl rfl Try.func16 (by kernel_rfl) rfl #[.int .u64 a0, .slice A1 l1.length c1] rfl (by (try simp only [List.map_toArray, List.map_cons, List.map_nil]); first | done | rfl | (simp only [List.length_drop, List.length_take]; rfl)) ?_; (with_reducible refine (examboardref12_Open.calls k a0 _ _ l1 t248 t249 t250 _ ?side1 ?side2 A6.out).mono ?_); (case side1 => repeat (first | exact (Kd.C_below HR1.out HB.out) | (with_reducible refine Kd.C_alloc ?_ _) | (with_reducible refine Kd.C_drewN ?_ _) | (with_reducible refine Kd.C_drew ?_))); (case side2 => exact HC1.out); rintro e w11 ⟨v251, rfl, ho0, hb⟩; refine ⟨_, rfl, ?_⟩; have n0_ := Aside0.mk (Kd.R_elder' (by (with_reducible repeat (first | apply Kd.R_alloc | apply Kd.R_drewN | apply Kd.R_drew)); exact HO247.out) (Kd.R_base ho0) hb); have n1_ := Aside0.mk (Kd.R_lower (Kd.R_new' ho0 (Kd.R_lt (by (with_reducible repeat (first | apply Kd.R_alloc | apply Kd.R_drewN | apply Kd.R_drew)); exact HO247.out))) (below_size (by repeat (first | (with_reducible first | exact HB.out | apply below_alloc | apply pw_below_drewN | apply below_drew1) | exact HB.out)))); have n2_ := Aside0.mk (below_step (by repeat (first | (with_reducible first | exact HB.out | apply below_alloc | apply pw_below_drewN | apply below_drew1) | exact HB.out)) hb); clear HO247; clear HB; have HO247 := n0_; have HO252 := n1_; have HB := n2_; clear n0_ n1_ n2_; (try clear hb); (try clear hb2); (try clear hk); (try clear hi); (try clear ho0); obtain ⟨Ao12, co12, eo12⟩ := Kd.R_slice HO247.out; subst eo12; obtain ⟨Ao13, co13, eo13⟩ := Kd.R_slice HO252.out; subst eo13) | ((with_reducible refine gate_callee (f := 14) rfl ?_); refine goesL_ (some 30) rfl rfl Try.func14 (by kernel_rfl) rfl #[.slice Ao12 t243.length co12, .slice Ao13 t248.length co13] rfl (by (try simp only [List.map_toArray, List.map_cons, List.map_nil]); first | done | rfl | (simp only [List.length_drop, List.length_take]; rfl)) ?_; (with_reducible refine (examboardlaw12_same.calls k _ _ t243 _ _ t248 true _ ?side1 ?side2 ?side3 ?side4 A7.out).mono ?_); (case side1 => repeat (first | exact (Kd.R_reads' HO247.out).2.2 | (with_reducible refine Kd.C_alloc ?_ _) | (with_reducible refine Kd.C_drewN ?_ _) | (with_reducible refine Kd.C_drew ?_))); (case side2 => exact (Kd.R_reads' HO247.out).2.1); (case side3 => repeat (first | exact (Kd.R_reads' HO252.out).2.2 | (with_reducible refine Kd.C_alloc ?_ _) | (with_reducible refine Kd.C_drewN ?_ _) | (with_reducible refine Kd.C_drew ?_))); (case side4 => exact (Kd.R_reads' HO252.out).2.1); rintro e w' ⟨rfl, ⟨nd, rfl⟩⟩; refine ⟨_, rfl, ?_⟩))
        go_ret
        exact ⟨by first | rfl | (simp [errW_none, errW_some] <;> rfl) | (simp [*, errW_none, errW_some] <;> rfl), by repeat (first | (with_reducible first | exact HB.out | apply below_alloc | apply pw_below_drewN | apply below_drew1) | exact HB.out)⟩
      · rw [if_neg c9] at H
        have c9b0 : (t244 == t249) = false := beq_eq_false_iff_ne.mpr c9
        have c9b1 : (t244 != t249) = true := bne_iff_ne.mpr c9
        obtain rfl := Option.some.inj H
        go_enter Try.func6, Try.ntmps6
        go_wp2_with (first | ((with_reducible refine gate_callee (f := 11) rfl ?_); refine goesL_ (some 13) rfl rfl Try.func11 (by kernel_rfl) rfl #[.int .i64 (l1.length : Int), .int .i64 1048592] rfl (by (try simp only [List.map_toArray, List.map_cons, List.map_nil]); first | done | rfl | (simp only [List.length_drop, List.length_take]; rfl)) ?_; (with_reducible refine (examboardlaw12_middling.calls (l1.length : Int) 1048592 false _ A3.out).mono ?_); rintro e w' ⟨rfl, ⟨nd, rfl⟩⟩; refine ⟨_, rfl, ?_⟩) | ((with_reducible refine gate_callee (f := 15) rfl ?_); refine goesL_ (some 17) rfl rfl Try.func15 (by kernel_rfl) rfl #[.int .u64 a0, .slice A1 l1.length c1] rfl (by (try simp only [List.map_toArray, List.map_cons, List.map_nil]); first | done | rfl | (simp only [List.length_drop, List.length_take]; rfl)) ?_; (with_reducible refine (cipher_Open.calls k a0 _ _ l1 t243 t244 t245 _ ?side1 ?side2 A5.out).mono ?_); (case side1 => repeat (first | exact HR1.out | (with_reducible refine Kd.C_alloc ?_ _) | (with_reducible refine Kd.C_drewN ?_ _) | (with_reducible refine Kd.C_drew ?_))); (case side2 => exact HC1.out); rintro e w14 ⟨v246, rfl, ho0, hb⟩; refine ⟨_, rfl, ?_⟩; have n0_ := Aside0.mk (Kd.R_lower ho0 (below_size (by repeat (first | (with_reducible first | exact HB.out | apply below_alloc | apply pw_below_drewN | apply below_drew1) | exact HB.out)))); have n1_ := Aside0.mk (below_step (by repeat (first | (with_reducible first | exact HB.out | apply below_alloc | apply pw_below_drewN | apply below_drew1) | exact HB.out)) hb); clear HB; have HO247 := n0_; have HB := n1_; clear n0_ n1_; (try clear hb); (try clear hb2); (try clear hk); (try clear hi); (try clear ho0)) | ((with_reducible refine gate_callee (f := 16) rfl ?_); refine goesL_ (some 24) rfl rfl Try.func16 (by kernel_rfl) rfl #[.int .u64 a0, .slice A1 l1.length c1] rfl (by (try simp only [List.map_toArray, List.map_cons, List.map_nil]); first | done | rfl | (simp only [List.length_drop, List.length_take]; rfl)) ?_; (with_reducible refine (examboardref12_Open.calls k a0 _ _ l1 t248 t249 t250 _ ?side1 ?side2 A6.out).mono ?_); (case side1 => repeat (first | exact (Kd.C_below HR1.out HB.out) | (with_reducible refine Kd.C_alloc ?_ _) | (with_reducible refine Kd.C_drewN ?_ _) | (with_reducible refine Kd.C_drew ?_))); (case side2 => exact HC1.out); rintro e w15 ⟨v251, rfl, ho0, hb⟩; refine ⟨_, rfl, ?_⟩; have n0_ := Aside0.mk (Kd.R_elder' (by (with_reducible repeat (first | apply Kd.R_alloc | apply Kd.R_drewN | apply Kd.R_drew)); exact HO247.out) (Kd.R_base ho0) hb); have n1_ := Aside0.mk (Kd.R_lower (Kd.R_new' ho0 (Kd.R_lt (by (with_reducible repeat (first | apply Kd.R_alloc | apply Kd.R_drewN | apply Kd.R_drew)); exact HO247.out))) (below_size (by repeat (first | (with_reducible first | exact HB.out | apply below_alloc | apply pw_below_drewN | apply below_drew1) | exact HB.out)))); have n2_ := Aside0.mk (below_step (by repeat (first | (with_reducible first | exact HB.out | apply below_alloc | apply pw_below_drewN | apply below_drew1) | exact HB.out)) hb); clear HO247; clear HB; have HO247 := n0_; have HO252 := n1_; have HB := n2_; clear n0_ n1_ n2_; (try clear hb); (try clear hb2); (try clear hk); (try clear hi); (try clear ho0); obtain ⟨Ao16, co16, eo16⟩ := Kd.R_slice HO247.out; subst eo16; obtain ⟨Ao17, co17, eo17⟩ := Kd.R_slice HO252.out; subst eo17) | ((with_reducible refine gate_callee (f := 14) rfl ?_); refine goesL_ (some 30) rfl rfl Try.func14 (by kernel_rfl) rfl #[.slice Ao16 t243.length co16, .slice Ao17 t248.length co17] rfl (by (try simp only [List.map_toArray, List.map_cons, List.map_nil]); first | done | rfl | (simp only [List.length_drop, List.length_take]; rfl)) ?_; (with_reducible refine (examboardlaw12_same.calls k _ _ t243 _ _ t248 true _ ?side1 ?side2 ?side3 ?side4 A7.out).mono ?_); (case side1 => repeat (first | exact (Kd.R_reads' HO247.out).2.2 | (with_reducible refine Kd.C_alloc ?_ _) | (with_reducible refine Kd.C_drewN ?_ _) | (with_reducible refine Kd.C_drew ?_))); (case side2 => exact (Kd.R_reads' HO247.out).2.1); (case side3 => repeat (first | exact (Kd.R_reads' HO252.out).2.2 | (with_reducible refine Kd.C_alloc ?_ _) | (with_reducible refine Kd.C_drewN ?_ _) | (with_reducible refine Kd.C_drew ?_))); (case side4 => exact (Kd.R_reads' HO252.out).2.1); rintro e w' ⟨rfl, ⟨nd, rfl⟩⟩; refine ⟨_, rfl, ?_⟩))
        go_ret
        exact ⟨by first | rfl | (simp [errW_none, errW_some] <;> rfl) | (simp [*, errW_none, errW_some] <;> rfl), by repeat (first | (with_reducible first | exact HB.out | apply below_alloc | apply pw_below_drewN | apply below_drew1) | exact HB.out)⟩
    · replace c8 := Bool.eq_false_iff.mpr c8
      subst c8
      have H1 : (some false) = some r := by rw [if_neg (show ¬ (false = true) by decide)] at H; exact H
      clear H
      have H := H1
      clear H1
      obtain rfl := Option.some.inj H
      go_enter Try.func6, Try.ntmps6
      go_wp2_with (first | ((with_reducible refine gate_callee (f := 11) rfl ?_); refine goesL_ (some 13) rfl rfl Try.func11 (by kernel_rfl) rfl #[.int .i64 (l1.length : Int), .int .i64 1048592] rfl (by (try simp only [List.map_toArray, List.map_cons, List.map_nil]); first | done | rfl | (simp only [List.length_drop, List.length_take]; rfl)) ?_; (with_reducible refine (examboardlaw12_middling.calls (l1.length : Int) 1048592 false _ A3.out).mono ?_); rintro e w' ⟨rfl, ⟨nd, rfl⟩⟩; refine ⟨_, rfl, ?_⟩) | ((with_reducible refine gate_callee (f := 15) rfl ?_); refine goesL_ (some 17) rfl rfl Try.func15 (by kernel_rfl) rfl #[.int .u64 a0, .slice A1 l1.length c1] rfl (by (try simp only [List.map_toArray, List.map_cons, List.map_nil]); first | done | rfl | (simp only [List.length_drop, List.length_take]; rfl)) ?_; (with_reducible refine (cipher_Open.calls k a0 _ _ l1 t243 t244 t245 _ ?side1 ?side2 A5.out).mono ?_); (case side1 => repeat (first | exact HR1.out | (with_reducible refine Kd.C_alloc ?_ _) | (with_reducible refine Kd.C_drewN ?_ _) | (with_reducible refine Kd.C_drew ?_))); (case side2 => exact HC1.out); rintro e w18 ⟨v246, rfl, ho0, hb⟩; refine ⟨_, rfl, ?_⟩; have n0_ := Aside0.mk (Kd.R_lower ho0 (below_size (by repeat (first | (with_reducible first | exact HB.out | apply below_alloc | apply pw_below_drewN | apply below_drew1) | exact HB.out)))); have n1_ := Aside0.mk (below_step (by repeat (first | (with_reducible first | exact HB.out | apply below_alloc | apply pw_below_drewN | apply below_drew1) | exact HB.out)) hb); clear HB; have HO247 := n0_; have HB := n1_; clear n0_ n1_; (try clear hb); (try clear hb2); (try clear hk); (try clear hi); (try clear ho0)) | ((with_reducible refine gate_callee (f := 16) rfl ?_); refine goesL_ (some 24) rfl rfl Try.func16 (by kernel_rfl) rfl #[.int .u64 a0, .slice A1 l1.length c1] rfl (by (try simp only [List.map_toArray, List.map_cons, List.map_nil]); first | done | rfl | (simp only [List.length_drop, List.length_take]; rfl)) ?_; (with_reducible refine (examboardref12_Open.calls k a0 _ _ l1 t248 t249 t250 _ ?side1 ?side2 A6.out).mono ?_); (case side1 => repeat (first | exact (Kd.C_below HR1.out HB.out) | (with_reducible refine Kd.C_alloc ?_ _) | (with_reducible refine Kd.C_drewN ?_ _) | (with_reducible refine Kd.C_drew ?_))); (case side2 => exact HC1.out); rintro e w19 ⟨v251, rfl, ho0, hb⟩; refine ⟨_, rfl, ?_⟩; have n0_ := Aside0.mk (Kd.R_elder' (by (with_reducible repeat (first | apply Kd.R_alloc | apply Kd.R_drewN | apply Kd.R_drew)); exact HO247.out) (Kd.R_base ho0) hb); have n1_ := Aside0.mk (Kd.R_lower (Kd.R_new' ho0 (Kd.R_lt (by (with_reducible repeat (first | apply Kd.R_alloc | apply Kd.R_drewN | apply Kd.R_drew)); exact HO247.out))) (below_size (by repeat (first | (with_reducible first | exact HB.out | apply below_alloc | apply pw_below_drewN | apply below_drew1) | exact HB.out)))); have n2_ := Aside0.mk (below_step (by repeat (first | (with_reducible first | exact HB.out | apply below_alloc | apply pw_below_drewN | apply below_drew1) | exact HB.out)) hb); clear HO247; clear HB; have HO247 := n0_; have HO252 := n1_; have HB := n2_; clear n0_ n1_ n2_; (try clear hb); (try clear hb2); (try clear hk); (try clear hi); (try clear ho0); obtain ⟨Ao20, co20, eo20⟩ := Kd.R_slice HO247.out; subst eo20; obtain ⟨Ao21, co21, eo21⟩ := Kd.R_slice HO252.out; subst eo21) | ((with_reducible refine gate_callee (f := 14) rfl ?_); refine goesL_ (some 30) rfl rfl Try.func14 (by kernel_rfl) rfl #[.slice Ao20 t243.length co20, .slice Ao21 t248.length co21] rfl (by (try simp only [List.map_toArray, List.map_cons, List.map_nil]); first | done | rfl | (simp only [List.length_drop, List.length_take]; rfl)) ?_; (with_reducible refine (examboardlaw12_same.calls k _ _ t243 _ _ t248 false _ ?side1 ?side2 ?side3 ?side4 A7.out).mono ?_); (case side1 => repeat (first | exact (Kd.R_reads' HO247.out).2.2 | (with_reducible refine Kd.C_alloc ?_ _) | (with_reducible refine Kd.C_drewN ?_ _) | (with_reducible refine Kd.C_drew ?_))); (case side2 => exact (Kd.R_reads' HO247.out).2.1); (case side3 => repeat (first | exact (Kd.R_reads' HO252.out).2.2 | (with_reducible refine Kd.C_alloc ?_ _) | (with_reducible refine Kd.C_drewN ?_ _) | (with_reducible refine Kd.C_drew ?_))); (case side4 => exact (Kd.R_reads' HO252.out).2.1); rintro e w' ⟨rfl, ⟨nd, rfl⟩⟩; refine ⟨_, rfl, ?_⟩))
      go_ret
      exact ⟨by first | rfl | (simp [errW_none, errW_some] <;> rfl) | (simp [*, errW_none, errW_some] <;> rfl), by repeat (first | (with_reducible first | exact HB.out | apply below_alloc | apply pw_below_drewN | apply below_drew1) | exact HB.out)⟩

/-- THE ONE PURE STATEMENT of examboardlaw12_CipherOpens: yours. -/
def examboardlaw12_CipherOpens.Pure : Prop := ∀ (a0 : Int) (l1 : List Int), (Lit.int .u64 a0).wf = true → l1.length ≤ maxLen → l1.length * 1 ≤ 140737488351232 → (∀ x ∈ l1, (Lit.int .u8 x).wf = true) → ∃ k, examboardlaw12_CipherOpens.f k a0 l1 = some true
theorem examboardlaw12_CipherOpens.walk (P : examboardlaw12_CipherOpens.Pure) (a0 : Int) (a1 : Option Addr) (len1 cap1 : Nat) (z1 : List Int) (w : World) (w0 : (Lit.int .u64 a0).wf = true) (w1 : (a1 = none ∧ len1 = 0 ∧ cap1 = 0 ∧ z1 = []) ∨ ∃ x, a1 = some x ∧ len1 ≤ cap1 ∧ cap1 ≤ maxLen ∧ z1.length = cap1 ∧ (∀ i, i < z1.length → w.cell? (x.add i) = some (.int .u8 (z1.getD i 0))) ∧ ∀ n ∈ z1, (Lit.int .u8 n).wf = true) (y1 : len1 * 1 ≤ 140737488351232) :
    Calls Try.prog 6 #[.int .u64 a0, .slice a1 len1 cap1] w fun e w' => e = .returned (.bool true) ∧ Below w.heap.size w w' := by
  obtain ⟨l1, rfl, hr1, hm1, hw1, hc1⟩ := ReadsInt.ofRowC w1
  obtain ⟨k, h⟩ := P a0 l1 w0 hm1 y1 hw1
  refine (examboardlaw12_CipherOpens.calls k a0 _ _ l1 true w (Kd.C_of_reads (d := (0 : Int)) (h1 := fun _ => rfl) hr1) hc1 h).mono ?_
  rintro e w' ⟨rfl, hd⟩
  exact ⟨rfl, hd⟩

/-! ### examboardlaw12_CipherRoundTrip: function 7 -/
mutual
def examboardlaw12_CipherRoundTrip.j0 : Nat → Int → Int → List Int → List Int → Bool → Option (Bool)
  | 0, _, _, _, _, _ => none
  | k + 1, x0, x1, x2, x7, x31 => if x31 = true then (some false) else (examboardlaw12_CipherRoundTrip.l0 k x0 x1 x2 x7 0)
def examboardlaw12_CipherRoundTrip.l0 : Nat → Int → Int → List Int → List Int → Int → Option (Bool)
  | 0, _, _, _, _, _ => none
  | k + 1, x0, x1, x2, x7, x9 => if x9 < 8 then (if 0 ≤ x9 then (if x9 < (x7.length : Int) then (if 0 ≤ (IntKind.u64.wrap (wrap64 (56 - (wrap64 (8 * x9))))) then (if (rd x7 x9) = ((shr .u64 x1 (IntKind.u64.wrap (wrap64 (56 - (wrap64 (8 * x9)))))) % 256) then (examboardlaw12_CipherRoundTrip.l0 k x0 x1 x2 x7 (wrap64 (x9 + 1))) else (some false)) else (none)) else (none)) else (none)) else ((cipher_Open.f k x0 x7).bind fun bt259 => (if bt259.2.2 = 0 then (if bt259.2.1 = x1 then ((examboardlaw12_same.f k bt259.1 x2).bind fun t264 => (some t264)) else (some false)) else (some false)))
end
def examboardlaw12_CipherRoundTrip.f (k : Nat) (a0 : Int) (a1 : Int) (l2 : List Int) : Option (Bool) := if (l2.length : Int) > 4000 then (some true) else ((cipher_Seal.f k a0 a1 l2).bind fun bt254 => (if bt254.2 = 0 then (examboardlaw12_CipherRoundTrip.j0 k a0 a1 l2 bt254.1 ((bt254.1.length : Int) != (wrap64 ((l2.length : Int) + 16)))) else (examboardlaw12_CipherRoundTrip.j0 k a0 a1 l2 bt254.1 true)))
theorem examboardlaw12_CipherRoundTrip.mono_l : ∀ k, (∀ y0 y1 y2 y3 y4, LeO (examboardlaw12_CipherRoundTrip.j0 k y0 y1 y2 y3 y4) (examboardlaw12_CipherRoundTrip.j0 (k + 1) y0 y1 y2 y3 y4)) ∧ (∀ y0 y1 y2 y3 y4, LeO (examboardlaw12_CipherRoundTrip.l0 k y0 y1 y2 y3 y4) (examboardlaw12_CipherRoundTrip.l0 (k + 1) y0 y1 y2 y3 y4))
  | 0 => ⟨fun _ _ _ _ _ r h => by simp [examboardlaw12_CipherRoundTrip.j0] at h, fun _ _ _ _ _ r h => by simp [examboardlaw12_CipherRoundTrip.l0] at h⟩
  | k + 1 => by
    obtain ⟨ih0, ih1⟩ := examboardlaw12_CipherRoundTrip.mono_l k
    refine ⟨?_, ?_⟩
    · intro y0 y1 y2 y3 y4
      unfold examboardlaw12_CipherRoundTrip.j0
      repeat' first
      | (with_reducible exact ih0 _ _ _ _ _)
      | (with_reducible exact ih1 _ _ _ _ _)
      | (with_reducible exact cipher_Open.mono _ _ _)
      | (with_reducible exact cipher_Seal.mono _ _ _ _)
      | (with_reducible exact examboardlaw12_same.mono _ _ _)
      | (with_reducible exact LeO.refl _)
      | (with_reducible exact LeO.none _)
      | (with_reducible refine LeO.ite ?_ ?_)
      | (with_reducible refine LeO.bind ?_ (fun _ => ?_))
      | exact ih0 _ _ _ _ _
      | exact ih1 _ _ _ _ _
      | exact cipher_Open.mono _ _ _
      | exact cipher_Seal.mono _ _ _ _
      | exact examboardlaw12_same.mono _ _ _
      | exact LeO.none _
      | refine LeO.ite ?_ ?_
      | refine LeO.bind ?_ (fun _ => ?_)
    · intro y0 y1 y2 y3 y4
      unfold examboardlaw12_CipherRoundTrip.l0
      repeat' first
      | (with_reducible exact ih0 _ _ _ _ _)
      | (with_reducible exact ih1 _ _ _ _ _)
      | (with_reducible exact cipher_Open.mono _ _ _)
      | (with_reducible exact cipher_Seal.mono _ _ _ _)
      | (with_reducible exact examboardlaw12_same.mono _ _ _)
      | (with_reducible exact LeO.refl _)
      | (with_reducible exact LeO.none _)
      | (with_reducible refine LeO.ite ?_ ?_)
      | (with_reducible refine LeO.bind ?_ (fun _ => ?_))
      | exact ih0 _ _ _ _ _
      | exact ih1 _ _ _ _ _
      | exact cipher_Open.mono _ _ _
      | exact cipher_Seal.mono _ _ _ _
      | exact examboardlaw12_same.mono _ _ _
      | exact LeO.none _
      | refine LeO.ite ?_ ?_
      | refine LeO.bind ?_ (fun _ => ?_)
theorem examboardlaw12_CipherRoundTrip.mono : ∀ a0 a1 a2 k, LeO (examboardlaw12_CipherRoundTrip.f k a0 a1 a2) (examboardlaw12_CipherRoundTrip.f (k + 1) a0 a1 a2) := by
  intro a0 a1 a2 k
  obtain ⟨ih0, ih1⟩ := examboardlaw12_CipherRoundTrip.mono_l k
  unfold examboardlaw12_CipherRoundTrip.f
  repeat' first
      | (with_reducible exact ih0 _ _ _ _ _)
      | (with_reducible exact ih1 _ _ _ _ _)
      | (with_reducible exact cipher_Open.mono _ _ _)
      | (with_reducible exact cipher_Seal.mono _ _ _ _)
      | (with_reducible exact examboardlaw12_same.mono _ _ _)
      | (with_reducible exact LeO.refl _)
      | (with_reducible exact LeO.none _)
      | (with_reducible refine LeO.ite ?_ ?_)
      | (with_reducible refine LeO.bind ?_ (fun _ => ?_))
      | exact ih0 _ _ _ _ _
      | exact ih1 _ _ _ _ _
      | exact cipher_Open.mono _ _ _
      | exact cipher_Seal.mono _ _ _ _
      | exact examboardlaw12_same.mono _ _ _
      | exact LeO.none _
      | refine LeO.ite ?_ ?_
      | refine LeO.bind ?_ (fun _ => ?_)
set_option maxHeartbeats 8000000 in
set_option maxRecDepth 100000 in
theorem examboardlaw12_CipherRoundTrip.calls (k : Nat) (a0 : Int) (a1 : Int) (A2 : Option Addr) (c2 : Nat) (l2 : List Int) (r : Bool) (w : World) (hr2 : Kd.C (Kd.int .u8) w A2 l2.length l2) (hc2 : l2.length ≤ c2) (h : examboardlaw12_CipherRoundTrip.f k a0 a1 l2 = some r) :
    Calls Try.prog 7 #[.int .u64 a0, .int .u64 a1, .slice A2 l2.length c2] w fun e w' => e = .returned (.bool r) ∧ Below w.heap.size w w' := by
  have HR2 := Aside0.mk hr2
  have HC2 := Aside0.mk hc2
  clear hr2 hc2
  have HB := Aside0.mk (Below.refl w.heap.size w)
  have H : (if (l2.length : Int) > 4000 then (some true) else ((cipher_Seal.f k a0 a1 l2).bind fun bt254 => (if bt254.2 = 0 then (examboardlaw12_CipherRoundTrip.j0 k a0 a1 l2 bt254.1 ((bt254.1.length : Int) != (wrap64 ((l2.length : Int) + 16)))) else (examboardlaw12_CipherRoundTrip.j0 k a0 a1 l2 bt254.1 true)))) = some r := h
  clear h
  by_cases c4 : (l2.length : Int) > 4000
  · rw [if_pos c4] at H
    have c4b0 : decide (4000 < (l2.length : Int)) = true := decide_eq_true c4
    have c4b1 : decide (4000 < l2.length) = true := decide_eq_true (by omega)
    clear c4
    obtain rfl := Option.some.inj H
    go_enter Try.func7, Try.ntmps7
    go_wp2
    go_ret
    exact ⟨by first | rfl | (simp [errW_none, errW_some] <;> rfl) | (simp [*, errW_none, errW_some] <;> rfl), by repeat (first | (with_reducible first | exact HB.out | apply below_alloc | apply pw_below_drewN | apply below_drew1) | exact HB.out)⟩
  · rw [if_neg c4] at H
    have c4b0 : decide (4000 < (l2.length : Int)) = false := decide_eq_false c4
    have c4b1 : decide (4000 < l2.length) = false := decide_eq_false (by omega)
    clear c4
    replace H := Option.bind_eq_some_iff.mp H
    obtain ⟨⟨t254, t255⟩, A50, H⟩ := H
    replace H : (if t255 = 0 then (examboardlaw12_CipherRoundTrip.j0 k a0 a1 l2 t254 ((t254.length : Int) != (wrap64 ((l2.length : Int) + 16)))) else (examboardlaw12_CipherRoundTrip.j0 k a0 a1 l2 t254 true)) = some r := H
    have A5 := Aside0.mk A50
    clear A50
    have HC6 := Aside0.mk H
    clear H
    go_enter Try.func7, Try.ntmps7
    go_upto_region 4 with (first | ((with_reducible refine gate_callee (f := 12) rfl ?_); refine goesL_ (some 19) rfl rfl Try.func12 (by kernel_rfl) rfl #[.int .u64 a0, .int .u64 a1, .slice A2 l2.length c2] rfl (by (try simp only [List.map_toArray, List.map_cons, List.map_nil]); first | done | rfl | (simp only [List.length_drop, List.length_take]; rfl)) ?_; (with_reducible refine (cipher_Seal.calls k a0 a1 _ _ l2 t254 t255 _ ?side1 ?side2 A5.out).mono ?_); (case side1 => repeat (first | exact HR2.out | (with_reducible refine Kd.C_alloc ?_ _) | (with_reducible refine Kd.C_drewN ?_ _) | (with_reducible refine Kd.C_drew ?_))); (case side2 => exact HC2.out); rintro e w7 ⟨v256, rfl, ho0, hb⟩; refine ⟨_, rfl, ?_⟩; have n0_ := Aside0.mk (Kd.R_lower ho0 (below_size (by repeat (first | (with_reducible first | exact HB.out | apply below_alloc | apply pw_below_drewN | apply below_drew1) | exact HB.out)))); have n1_ := Aside0.mk (below_step (by repeat (first | (with_reducible first | exact HB.out | apply below_alloc | apply pw_below_drewN | apply below_drew1) | exact HB.out)) hb); clear HB; have HO257 := n0_; have HB := n1_; clear n0_ n1_; (try clear hb); (try clear hb2); (try clear hk); (try clear hi); (try clear ho0)))
    (try simp only [Act.put, List.setIfInBounds_toArray, List.set_cons_zero, List.set_cons_succ])
    go_cut [31] (fun v31 wc => ∃ (kq : Nat) (x31_5 : Bool), v31 = .bool x31_5 ∧ Aside0 (examboardlaw12_CipherRoundTrip.j0 kq a0 a1 l2 t254 x31_5 = some r) ∧ Aside0 (kq ≤ k) ∧ Aside0 (Kd.R (Kd.int .u8) 5 wc w.heap.size (fun _ => True) v256 t254) ∧ Aside0 (Below w.heap.size w wc))
    case first =>
      have H := HC6.out
      clear HC6
      by_cases c8 : t255 = 0
      · rw [if_pos c8] at H
        have c8b0 : (t255 == 0) = true := beq_iff_eq.mpr c8
        have c8b1 : (t255 != 0) = false := bne_eq_false_iff_eq.mpr c8
        clear c8
        (first | rw [c8b0] | (simp only [i64_w, i32_w]; rw [c8b0]) | skip)
        have H' := Aside0.mk H
        clear H
        obtain ⟨Ao9, co9, eo9⟩ := Kd.R_slice HO257.out
        subst eo9
        go_wp2
        go_meet
        case rel => exact ⟨_, (((t254.length : Int) != (wrap64 ((l2.length : Int) + 16)))), (by first | rfl | (simp; done) | (simp [*]; done)), H', ⟨by first | omega | exact Nat.le_refl _⟩, ⟨by (with_reducible repeat (first | apply Kd.R_alloc | apply Kd.R_drewN | apply Kd.R_drew)); exact HO257.out⟩, ⟨by repeat (first | (with_reducible first | exact HB.out | apply below_alloc | apply pw_below_drewN | apply below_drew1) | exact HB.out)⟩⟩
      · rw [if_neg c8] at H
        have c8b0 : (t255 == 0) = false := beq_eq_false_iff_ne.mpr c8
        have c8b1 : (t255 != 0) = true := bne_iff_ne.mpr c8
        (first | rw [c8b0] | (simp only [i64_w, i32_w]; rw [c8b0]) | skip)
        have H' := Aside0.mk H
        clear H
        go_wp2
        go_meet
        case rel => exact ⟨_, (true), (by first | rfl | (simp; done) | (simp [*]; done)), H', ⟨by first | omega | exact Nat.le_refl _⟩, ⟨by (with_reducible repeat (first | apply Kd.R_alloc | apply Kd.R_drewN | apply Kd.R_drew)); exact HO257.out⟩, ⟨by repeat (first | (with_reducible first | exact HB.out | apply below_alloc | apply pw_below_drewN | apply below_drew1) | exact HB.out)⟩⟩
    case rest =>
      clear HC6
      try clear c1
      try clear c2
      try clear p2
      try clear c4
      try clear c4b0
      try clear c4b1
      try clear p6
      try clear c7
      try clear c8
      try clear c8b0
      try clear c8b1
      obtain ⟨kq, x31_5, rfl, HA, HJ5, HO_7, HB⟩ := hcut
      cases kq with
      | zero => exact absurd HA.out (by simp [examboardlaw12_CipherRoundTrip.j0])
      | succ kj5 =>
        have H := HA.out
        clear HA
        simp only [examboardlaw12_CipherRoundTrip.j0] at H
        by_cases c10 : x31_5 = true
        · subst c10
          have H1 : (some false) = some r := by rw [if_pos rfl] at H; exact H
          clear H
          have H := H1
          clear H1
          obtain rfl := Option.some.inj H
          go_wp2
          go_ret
          exact ⟨by first | rfl | (simp [errW_none, errW_some] <;> rfl) | (simp [*, errW_none, errW_some] <;> rfl), by repeat (first | (with_reducible first | exact HB.out | apply below_alloc | apply pw_below_drewN | apply below_drew1) | exact HB.out)⟩
        · replace c10 := Bool.eq_false_iff.mpr c10
          subst c10
          have H1 : (examboardlaw12_CipherRoundTrip.l0 kj5 a0 a1 l2 t254 0) = some r := by rw [if_neg (show ¬ (false = true) by decide)] at H; exact H
          clear H
          have H := H1
          clear H1
          have H' := Aside0.mk H
          clear H
          go_wp2
          go_loopg [9] kj5 (fun kq v9 w' => ∃ (x9_2 : Int), v9 = .int .i64 x9_2 ∧ Aside0 (examboardlaw12_CipherRoundTrip.l0 kq a0 a1 l2 t254 x9_2 = some r) ∧ Aside0 (kq ≤ kj5) ∧ Aside0 (Kd.R (Kd.int .u8) 5 w' w.heap.size (fun _ => True) v256 t254) ∧ Aside0 (Below w.heap.size w w'))
          case atStart => exact ⟨(0), (by first | rfl | (simp; done) | (simp [*]; done)), H', ⟨Nat.le_refl _⟩, ⟨by (with_reducible repeat (first | apply Kd.R_alloc | apply Kd.R_drewN | apply Kd.R_drew)); exact HO_7.out⟩, ⟨by repeat (first | (with_reducible first | exact HB.out | apply below_alloc | apply pw_below_drewN | apply below_drew1) | exact HB.out)⟩⟩
          case round =>
            clear H'
            try clear c1
            try clear c2
            try clear p2
            try clear c4
            try clear c4b0
            try clear c4b1
            try clear p6
            try clear c7
            try clear c8
            try clear c8b0
            try clear c8b1
            try clear c10
            try clear p2
            try clear p6
            obtain ⟨x9_2, rfl, HA, HK2, HO_7, HB⟩ := hrel
            cases gk with
            | zero => exact absurd HA.out (by simp [examboardlaw12_CipherRoundTrip.l0])
            | succ k2 =>
              have H := HA.out
              clear HA
              simp only [examboardlaw12_CipherRoundTrip.l0] at H
              by_cases c11 : x9_2 < 8
              · rw [if_pos c11] at H
                have c11b0 : decide (x9_2 < 8) = true := decide_eq_true c11
                clear c11
                by_cases c12 : 0 ≤ x9_2
                · rw [if_pos c12] at H
                  have c12b0 : decide (0 ≤ x9_2) = true := decide_eq_true c12
                  clear c12
                  by_cases c13 : x9_2 < (t254.length : Int)
                  · rw [if_pos c13] at H
                    have c13b0 : decide (x9_2 < (t254.length : Int)) = true := decide_eq_true c13
                    clear c13
                    obtain ⟨ji14, hji14⟩ : ∃ j_ : Int, (IntKind.u64.wrap (wrap64 (56 - (wrap64 (8 * x9_2))))) = j_ := ⟨_, rfl⟩
                    replace H : (if 0 ≤ (ji14) then (if (rd t254 x9_2) = ((shr .u64 a1 (ji14)) % 256) then (examboardlaw12_CipherRoundTrip.l0 k2 a0 a1 l2 t254 (wrap64 (x9_2 + 1))) else (some false)) else (none)) = some r := by first | (rw [hji14] at H; exact H) | (simp only [hji14] at H ⊢; exact H)
                    by_cases c15 : 0 ≤ (ji14)
                    · rw [if_pos c15] at H
                      have c15b0 := eq_true c15
                      have c15b1 : decide (0 ≤ (ji14)) = true := decide_eq_true c15
                      clear c15
                      obtain ⟨ji16, hji16⟩ : ∃ j_ : Int, (shr .u64 a1 (ji14)) = j_ := ⟨_, rfl⟩
                      replace H : (if (rd t254 x9_2) = ((ji16) % 256) then (examboardlaw12_CipherRoundTrip.l0 k2 a0 a1 l2 t254 (wrap64 (x9_2 + 1))) else (some false)) = some r := by first | (rw [hji16] at H; exact H) | (simp only [hji16] at H ⊢; exact H)
                      have hji16_ : (a1 / 2 ^ min (ji14).toNat 64) = ji16 := hji16
                      have hji16z : (ji14) ≤ 64 → (a1 / 2 ^ (ji14).toNat) = ji16 := shr_small hji16
                      by_cases c17 : (rd t254 x9_2) = ((ji16) % 256)
                      · rw [if_pos c17] at H
                        have c17b0 : ((rd t254 x9_2) == ((ji16) % 256)) = true := beq_iff_eq.mpr c17
                        have c17b1 : ((rd t254 x9_2) != ((ji16) % 256)) = false := bne_eq_false_iff_eq.mpr c17
                        clear c17
                        have H' := Aside0.mk H
                        clear H
                        obtain ⟨Ao18, co18, eo18⟩ := Kd.R_slice HO_7.out
                        subst eo18
                        have p258 : 0 ≤ (x9_2 : Int) := of_decide_eq_true (by first | (with_reducible assumption) | assumption)
                        have q258 : x9_2 < (t254.length : Int) := of_decide_eq_true (by first | (with_reducible assumption) | assumption)
                        obtain ⟨ad258, e258, hx258_0⟩ := Kd.at_int (Kd.R_reads' HO_7.out).2.2 x9_2 p258 q258
                        cases e258
                        replace p258 := eq_true p258
                        replace q258 := eq_true q258
                        go_wp2
                        go_roundg k2
                        case measure => have := HJ5.out; have := HK2.out; omega
                        case rel => exact ⟨(wrap64 (x9_2 + 1)), (by first | rfl | (simp; done) | (simp [*]; done)), H', ⟨by have := HJ5.out; have := HK2.out; omega⟩, ⟨by (with_reducible repeat (first | apply Kd.R_alloc | apply Kd.R_drewN | apply Kd.R_drew)); exact HO_7.out⟩, ⟨by repeat (first | (with_reducible first | exact HB.out | apply below_alloc | apply pw_below_drewN | apply below_drew1) | exact HB.out)⟩⟩
                      · rw [if_neg c17] at H
                        have c17b0 : ((rd t254 x9_2) == ((ji16) % 256)) = false := beq_eq_false_iff_ne.mpr c17
                        have c17b1 : ((rd t254 x9_2) != ((ji16) % 256)) = true := bne_iff_ne.mpr c17
                        obtain rfl := Option.some.inj H
                        obtain ⟨Ao19, co19, eo19⟩ := Kd.R_slice HO_7.out
                        subst eo19
                        have p258 : 0 ≤ (x9_2 : Int) := of_decide_eq_true (by first | (with_reducible assumption) | assumption)
                        have q258 : x9_2 < (t254.length : Int) := of_decide_eq_true (by first | (with_reducible assumption) | assumption)
                        obtain ⟨ad258, e258, hx258_0⟩ := Kd.at_int (Kd.R_reads' HO_7.out).2.2 x9_2 p258 q258
                        cases e258
                        replace p258 := eq_true p258
                        replace q258 := eq_true q258
                        go_wp2
                        go_ret
                        exact ⟨by first | rfl | (simp [errW_none, errW_some] <;> rfl) | (simp only [← hji14, ← hji16]; first | rfl | (simp [errW_none, errW_some] <;> rfl)) | (simp [*, errW_none, errW_some] <;> rfl), by repeat (first | (with_reducible first | exact HB.out | apply below_alloc | apply pw_below_drewN | apply below_drew1) | exact HB.out)⟩
                    · rw [if_neg c15] at H
                      exact absurd H (by simp)
                  · rw [if_neg c13] at H
                    exact absurd H (by simp)
                · rw [if_neg c12] at H
                  exact absurd H (by simp)
              · rw [if_neg c11] at H
                have c11b0 : decide (x9_2 < 8) = false := decide_eq_false c11
                clear c11
                replace H := Option.bind_eq_some_iff.mp H
                obtain ⟨⟨t259, t260, t261⟩, A200, H⟩ := H
                replace H : (if t261 = 0 then (if t260 = a1 then ((examboardlaw12_same.f k2 t259 l2).bind fun t264 => (some t264)) else (some false)) else (some false)) = some r := H
                have A20 := Aside0.mk A200
                clear A200
                by_cases c21 : t261 = 0
                · rw [if_pos c21] at H
                  have c21b0 : (t261 == 0) = true := beq_iff_eq.mpr c21
                  have c21b1 : (t261 != 0) = false := bne_eq_false_iff_eq.mpr c21
                  clear c21
                  by_cases c22 : t260 = a1
                  · rw [if_pos c22] at H
                    have c22b0 : (t260 == a1) = true := beq_iff_eq.mpr c22
                    have c22b1 : (t260 != a1) = false := bne_eq_false_iff_eq.mpr c22
                    clear c22
                    replace H := Option.bind_eq_some_iff.mp H
                    obtain ⟨t264, A230, H⟩ := H
                    replace H : (some t264) = some r := H
                    have A23 := Aside0.mk A230
                    clear A230
                    obtain rfl := Option.some.inj H
                    obtain ⟨Ao24, co24, eo24⟩ := Kd.R_slice HO_7.out
                    subst eo24
                    go_wp2_with (first | ((with_reducible refine gate_callee (f := 15) rfl ?_); refine goesL_ (some 51) rfl rfl Try.func15 (by kernel_rfl) rfl #[.int .u64 a0, .slice Ao24 t254.length co24] rfl (by (try simp only [List.map_toArray, List.map_cons, List.map_nil]); first | done | rfl | (simp only [List.length_drop, List.length_take]; rfl)) ?_; (with_reducible refine (cipher_Open.calls k2 a0 _ _ t254 t259 t260 t261 _ ?side1 ?side2 A20.out).mono ?_); (case side1 => repeat (first | exact (Kd.R_reads' HO_7.out).2.2 | (with_reducible refine Kd.C_alloc ?_ _) | (with_reducible refine Kd.C_drewN ?_ _) | (with_reducible refine Kd.C_drew ?_))); (case side2 => exact (Kd.R_reads' HO_7.out).2.1); rintro e w25 ⟨v262, rfl, ho0, hb⟩; refine ⟨_, rfl, ?_⟩; have n0_ := Aside0.mk (Kd.R_elder' (by (with_reducible repeat (first | apply Kd.R_alloc | apply Kd.R_drewN | apply Kd.R_drew)); exact HO_7.out) (Kd.R_base ho0) hb); have n1_ := Aside0.mk (Kd.R_lower (Kd.R_new' ho0 (Kd.R_lt (by (with_reducible repeat (first | apply Kd.R_alloc | apply Kd.R_drewN | apply Kd.R_drew)); exact HO_7.out))) (below_size (by repeat (first | (with_reducible first | exact HB.out | apply below_alloc | apply pw_below_drewN | apply below_drew1) | exact HB.out)))); have n2_ := Aside0.mk (below_step (by repeat (first | (with_reducible first | exact HB.out | apply below_alloc | apply pw_below_drewN | apply below_drew1) | exact HB.out)) hb); clear HO_7; clear HB; have HO_7 := n0_; have HO263 := n1_; have HB := n2_; clear n0_ n1_ n2_; (try clear hb); (try clear hb2); (try clear hk); (try clear hi); (try clear ho0); obtain ⟨Ao26, co26, eo26⟩ := Kd.R_slice HO263.out; subst eo26) | (go_at_call 14; (with_reducible refine (examboardlaw12_same.calls k2 _ _ t259 _ _ l2 t264 _ ?side1 ?side2 ?side3 ?side4 A23.out).mono ?_); (case side1 => repeat (first | exact (Kd.R_reads' HO263.out).2.2 | (with_reducible refine Kd.C_alloc ?_ _) | (with_reducible refine Kd.C_drewN ?_ _) | (with_reducible refine Kd.C_drew ?_))); (case side2 => exact (Kd.R_reads' HO263.out).2.1); (case side3 => repeat (first | exact (Kd.C_below HR2.out HB.out) | (with_reducible refine Kd.C_alloc ?_ _) | (with_reducible refine Kd.C_drewN ?_ _) | (with_reducible refine Kd.C_drew ?_))); (case side4 => exact HC2.out); rintro e w' ⟨rfl, ⟨nd, rfl⟩⟩))
                    go_ret
                    exact ⟨by first | rfl | (simp [errW_none, errW_some] <;> rfl) | (simp [*, errW_none, errW_some] <;> rfl), by repeat (first | (with_reducible first | exact HB.out | apply below_alloc | apply pw_below_drewN | apply below_drew1) | exact HB.out)⟩
                  · rw [if_neg c22] at H
                    have c22b0 : (t260 == a1) = false := beq_eq_false_iff_ne.mpr c22
                    have c22b1 : (t260 != a1) = true := bne_iff_ne.mpr c22
                    obtain rfl := Option.some.inj H
                    obtain ⟨Ao27, co27, eo27⟩ := Kd.R_slice HO_7.out
                    subst eo27
                    go_wp2_with (first | ((with_reducible refine gate_callee (f := 15) rfl ?_); refine goesL_ (some 51) rfl rfl Try.func15 (by kernel_rfl) rfl #[.int .u64 a0, .slice Ao27 t254.length co27] rfl (by (try simp only [List.map_toArray, List.map_cons, List.map_nil]); first | done | rfl | (simp only [List.length_drop, List.length_take]; rfl)) ?_; (with_reducible refine (cipher_Open.calls k2 a0 _ _ t254 t259 t260 t261 _ ?side1 ?side2 A20.out).mono ?_); (case side1 => repeat (first | exact (Kd.R_reads' HO_7.out).2.2 | (with_reducible refine Kd.C_alloc ?_ _) | (with_reducible refine Kd.C_drewN ?_ _) | (with_reducible refine Kd.C_drew ?_))); (case side2 => exact (Kd.R_reads' HO_7.out).2.1); rintro e w28 ⟨v262, rfl, ho0, hb⟩; refine ⟨_, rfl, ?_⟩; have n0_ := Aside0.mk (Kd.R_elder' (by (with_reducible repeat (first | apply Kd.R_alloc | apply Kd.R_drewN | apply Kd.R_drew)); exact HO_7.out) (Kd.R_base ho0) hb); have n1_ := Aside0.mk (Kd.R_lower (Kd.R_new' ho0 (Kd.R_lt (by (with_reducible repeat (first | apply Kd.R_alloc | apply Kd.R_drewN | apply Kd.R_drew)); exact HO_7.out))) (below_size (by repeat (first | (with_reducible first | exact HB.out | apply below_alloc | apply pw_below_drewN | apply below_drew1) | exact HB.out)))); have n2_ := Aside0.mk (below_step (by repeat (first | (with_reducible first | exact HB.out | apply below_alloc | apply pw_below_drewN | apply below_drew1) | exact HB.out)) hb); clear HO_7; clear HB; have HO_7 := n0_; have HO263 := n1_; have HB := n2_; clear n0_ n1_ n2_; (try clear hb); (try clear hb2); (try clear hk); (try clear hi); (try clear ho0)))
                    go_ret
                    exact ⟨by first | rfl | (simp [errW_none, errW_some] <;> rfl) | (simp [*, errW_none, errW_some] <;> rfl), by repeat (first | (with_reducible first | exact HB.out | apply below_alloc | apply pw_below_drewN | apply below_drew1) | exact HB.out)⟩
                · rw [if_neg c21] at H
                  have c21b0 : (t261 == 0) = false := beq_eq_false_iff_ne.mpr c21
                  have c21b1 : (t261 != 0) = true := bne_iff_ne.mpr c21
                  obtain rfl := Option.some.inj H
                  obtain ⟨Ao29, co29, eo29⟩ := Kd.R_slice HO_7.out
                  subst eo29
                  go_wp2_with (first | ((with_reducible refine gate_callee (f := 15) rfl ?_); refine goesL_ (some 51) rfl rfl Try.func15 (by kernel_rfl) rfl #[.int .u64 a0, .slice Ao29 t254.length co29] rfl (by (try simp only [List.map_toArray, List.map_cons, List.map_nil]); first | done | rfl | (simp only [List.length_drop, List.length_take]; rfl)) ?_; (with_reducible refine (cipher_Open.calls k2 a0 _ _ t254 t259 t260 t261 _ ?side1 ?side2 A20.out).mono ?_); (case side1 => repeat (first | exact (Kd.R_reads' HO_7.out).2.2 | (with_reducible refine Kd.C_alloc ?_ _) | (with_reducible refine Kd.C_drewN ?_ _) | (with_reducible refine Kd.C_drew ?_))); (case side2 => exact (Kd.R_reads' HO_7.out).2.1); rintro e w30 ⟨v262, rfl, ho0, hb⟩; refine ⟨_, rfl, ?_⟩; have n0_ := Aside0.mk (Kd.R_elder' (by (with_reducible repeat (first | apply Kd.R_alloc | apply Kd.R_drewN | apply Kd.R_drew)); exact HO_7.out) (Kd.R_base ho0) hb); have n1_ := Aside0.mk (Kd.R_lower (Kd.R_new' ho0 (Kd.R_lt (by (with_reducible repeat (first | apply Kd.R_alloc | apply Kd.R_drewN | apply Kd.R_drew)); exact HO_7.out))) (below_size (by repeat (first | (with_reducible first | exact HB.out | apply below_alloc | apply pw_below_drewN | apply below_drew1) | exact HB.out)))); have n2_ := Aside0.mk (below_step (by repeat (first | (with_reducible first | exact HB.out | apply below_alloc | apply pw_below_drewN | apply below_drew1) | exact HB.out)) hb); clear HO_7; clear HB; have HO_7 := n0_; have HO263 := n1_; have HB := n2_; clear n0_ n1_ n2_; (try clear hb); (try clear hb2); (try clear hk); (try clear hi); (try clear ho0)))
                  go_ret
                  exact ⟨by first | rfl | (simp [errW_none, errW_some] <;> rfl) | (simp [*, errW_none, errW_some] <;> rfl), by repeat (first | (with_reducible first | exact HB.out | apply below_alloc | apply pw_below_drewN | apply below_drew1) | exact HB.out)⟩

/-- THE ONE PURE STATEMENT of examboardlaw12_CipherRoundTrip: yours. -/
def examboardlaw12_CipherRoundTrip.Pure : Prop := ∀ (a0 : Int) (a1 : Int) (l2 : List Int), (Lit.int .u64 a0).wf = true → (Lit.int .u64 a1).wf = true → l2.length ≤ maxLen → l2.length * 1 ≤ 140737488351232 → (∀ x ∈ l2, (Lit.int .u8 x).wf = true) → ∃ k, examboardlaw12_CipherRoundTrip.f k a0 a1 l2 = some true
theorem examboardlaw12_CipherRoundTrip.walk (P : examboardlaw12_CipherRoundTrip.Pure) (a0 : Int) (a1 : Int) (a2 : Option Addr) (len2 cap2 : Nat) (z2 : List Int) (w : World) (w0 : (Lit.int .u64 a0).wf = true) (w1 : (Lit.int .u64 a1).wf = true) (w2 : (a2 = none ∧ len2 = 0 ∧ cap2 = 0 ∧ z2 = []) ∨ ∃ x, a2 = some x ∧ len2 ≤ cap2 ∧ cap2 ≤ maxLen ∧ z2.length = cap2 ∧ (∀ i, i < z2.length → w.cell? (x.add i) = some (.int .u8 (z2.getD i 0))) ∧ ∀ n ∈ z2, (Lit.int .u8 n).wf = true) (y2 : len2 * 1 ≤ 140737488351232) :
    Calls Try.prog 7 #[.int .u64 a0, .int .u64 a1, .slice a2 len2 cap2] w fun e w' => e = .returned (.bool true) ∧ Below w.heap.size w w' := by
  obtain ⟨l2, rfl, hr2, hm2, hw2, hc2⟩ := ReadsInt.ofRowC w2
  obtain ⟨k, h⟩ := P a0 a1 l2 w0 w1 hm2 y2 hw2
  refine (examboardlaw12_CipherRoundTrip.calls k a0 a1 _ _ l2 true w (Kd.C_of_reads (d := (0 : Int)) (h1 := fun _ => rfl) hr2) hc2 h).mono ?_
  rintro e w' ⟨rfl, hd⟩
  exact ⟨rfl, hd⟩

end Go.Proofs.Ytcohkopbgfnlbaa.Q
