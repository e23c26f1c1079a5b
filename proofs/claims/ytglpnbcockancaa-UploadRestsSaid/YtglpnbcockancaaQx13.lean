/- Made by wip/myprint.py of this session (it drives the kit's printer): what the calls of the Go functions come to, as plain Lean functions, and the row of a law over them; without conditions. -/
import Derived.Test.YtglpnbcockancaaQx0
import Derived.Test.YtglpnbcockancaaQx12
namespace Go.Proofs.Ytglpnbcockancaa.Q
open Go.RowKit Go.Proofs.YtglpnbcockancaaW.PrintWords Go.Proofs.YtglpnbcockancaaW.PrintLast Go.Proofs.YtglpnbcockancaaW.PrintMore
attribute [local go_sem] max2_int min2_int max_two min_two max_three min_three max_four min_four   -- for this text's walks alone
set_option linter.unusedVariables false
set_option linter.unusedSimpArgs false

/-! ### examboardref53_agree: function 45 -/
def examboardref53_agree.l0 : Nat → List Int → Int → Int → List Int → Int → Int → Option (Bool)
 | 0, _, _, _, _, _, _ => none
 | k + 1, x0, x1, x3, x12, x13, x14 => if x14 < x13 then (if 0 ≤ x14 then (if x14 < (x12.length : Int) then (if (wrap64 ((wrap64 (x3 + x14)) - x1)) ≥ 0 then (if (wrap64 ((wrap64 (x3 + x14)) - x1)) < (x0.length : Int) then (if 0 ≤ (wrap64 ((wrap64 (x3 + x14)) - x1)) then (if (rd x0 (wrap64 ((wrap64 (x3 + x14)) - x1))) = (rd x12 x14) then (examboardref53_agree.l0 k x0 x1 x3 x12 x13 (wrap64 (x14 + 1))) else (some false)) else (none)) else (examboardref53_agree.l0 k x0 x1 x3 x12 x13 (wrap64 (x14 + 1)))) else (examboardref53_agree.l0 k x0 x1 x3 x12 x13 (wrap64 (x14 + 1)))) else (none)) else (none)) else (some true)
def examboardref53_agree.f (k : Nat) (l0 : List Int) (a1 : Int) (l2 : List Int) (a3 : Int) : Option (Bool) := examboardref53_agree.l0 k l0 a1 a3 l2 (l2.length : Int) 0
theorem examboardref53_agree.mono_l : ∀ k, (∀ y0 y1 y2 y3 y4 y5, LeO (examboardref53_agree.l0 k y0 y1 y2 y3 y4 y5) (examboardref53_agree.l0 (k + 1) y0 y1 y2 y3 y4 y5))
 | 0 => fun _ _ _ _ _ _ r h => by simp [examboardref53_agree.l0] at h
 | k + 1 => by
  have ih0 := examboardref53_agree.mono_l k
  ·
   intro y0 y1 y2 y3 y4 y5
   unfold examboardref53_agree.l0
   repeat' first
   | (with_reducible exact ih0 _ _ _ _ _ _)
   | (with_reducible exact LeO.refl _)
   | (with_reducible exact LeO.none _)
   | (with_reducible refine LeO.ite ?_ ?_)
   | (with_reducible refine LeO.bind ?_ (fun _ => ?_))
   | exact ih0 _ _ _ _ _ _
   | exact LeO.none _
   | refine LeO.ite ?_ ?_
   | refine LeO.bind ?_ (fun _ => ?_)
theorem examboardref53_agree.mono : ∀ a0 a1 a2 a3 k, LeO (examboardref53_agree.f k a0 a1 a2 a3) (examboardref53_agree.f (k + 1) a0 a1 a2 a3) := by
 intro a0 a1 a2 a3 k
 have ih0 := examboardref53_agree.mono_l k
 unfold examboardref53_agree.f
 repeat' first
   | (with_reducible exact ih0 _ _ _ _ _ _)
   | (with_reducible exact LeO.refl _)
   | (with_reducible exact LeO.none _)
   | (with_reducible refine LeO.ite ?_ ?_)
   | (with_reducible refine LeO.bind ?_ (fun _ => ?_))
   | exact ih0 _ _ _ _ _ _
   | exact LeO.none _
   | refine LeO.ite ?_ ?_
   | refine LeO.bind ?_ (fun _ => ?_)
set_option maxHeartbeats 8000000 in
set_option maxRecDepth 100000 in
theorem examboardref53_agree.calls (k : Nat) (A0 : Option Addr) (c0 : Nat) (l0 : List Int) (a1 : Int) (A2 : Option Addr) (c2 : Nat) (l2 : List Int) (a3 : Int) (r : Bool) (w : World) (hr0 : Kd.C (Kd.int .u8) w A0 l0.length l0) (hc0 : l0.length ≤ c0) (hr2 : Kd.C (Kd.int .u8) w A2 l2.length l2) (hc2 : l2.length ≤ c2) (h : examboardref53_agree.f k l0 a1 l2 a3 = some r) :
  Calls Try.prog 45 #[.slice A0 l0.length c0, .int .i64 a1, .slice A2 l2.length c2, .int .i64 a3] w fun e w' => e = .returned (.bool r) ∧ Drawn0 w w' := by
 have HR0 := am hr0
 have HC0 := am hc0
 clear hr0 hc0
 have HR2 := am hr2
 have HC2 := am hc2
 clear hr2 hc2
 have H : (examboardref53_agree.l0 k l0 a1 a3 l2 (l2.length : Int) 0) = some r := h
 clear h
 have H' := am H
 clear H
 go_enter Try.func45, Try.ntmps45
 go_wp2
 go_loopg [14] k (fun kq v14 w' => ∃ (x14_1 : Int), v14 = .int .i64 x14_1 ∧ Aside0 (examboardref53_agree.l0 kq l0 a1 a3 l2 (l2.length : Int) x14_1 = some r) ∧ Aside0 (kq ≤ k) ∧ Drawn0 w w')
 case atStart => exact ⟨(0), (by first | rfl | (simp; done) | (simp [*]; done)), H', ⟨Nat.le_refl _⟩, by repeat (first | exact Drawn0.refl _ | apply Drawn0.step)⟩
 case round =>
  clear H'
  try clear c2
  try clear p2
  try clear c4
  obtain ⟨x14_1, rfl, HA, HK1, ⟨m1, rfl⟩⟩ := hrel
  cases gk with
  | zero => exact absurd HA.out (by simp [examboardref53_agree.l0])
  | succ k1 =>
   have H := HA.out
   clear HA
   simp only [examboardref53_agree.l0] at H
   by_cases c5 : x14_1 < (l2.length : Int)
   ·
    rw [if_pos c5] at H
    have c5b0 : decide (x14_1 < (l2.length : Int)) = true := decide_eq_true c5
    clear c5
    by_cases c6 : 0 ≤ x14_1
    ·
     rw [if_pos c6] at H
     have c6b0 : decide (0 ≤ x14_1) = true := decide_eq_true c6
     clear c6
     by_cases c7 : x14_1 < (l2.length : Int)
     ·
      rw [if_pos c7] at H
      have c7b0 : decide (x14_1 < (l2.length : Int)) = true := decide_eq_true c7
      clear c7
      by_cases c8 : (wrap64 ((wrap64 (a3 + x14_1)) - a1)) ≥ 0
      ·
       rw [if_pos c8] at H
       have c8b0 : decide (0 ≤ (wrap64 ((wrap64 (a3 + x14_1)) - a1))) = true := decide_eq_true c8
       clear c8
       by_cases c9 : (wrap64 ((wrap64 (a3 + x14_1)) - a1)) < (l0.length : Int)
       ·
        rw [if_pos c9] at H
        have c9b0 : decide ((wrap64 ((wrap64 (a3 + x14_1)) - a1)) < (l0.length : Int)) = true := decide_eq_true c9
        clear c9
        obtain ⟨ji10, hji10⟩ : ∃ j_ : Int, (wrap64 ((wrap64 (a3 + x14_1)) - a1)) = j_ := ⟨_, rfl⟩
        replace H : (if 0 ≤ (ji10) then (if (rd l0 (ji10)) = (rd l2 x14_1) then (examboardref53_agree.l0 k1 l0 a1 a3 l2 (l2.length : Int) (wrap64 (x14_1 + 1))) else (some false)) else (none)) = some r := by first | (rw [hji10] at H; exact H) | (simp only [hji10] at H ⊢; exact H)
        (try rw [hji10] at c8b0)
        (try rw [hji10] at c9b0)
        have hji10w : (IntKind.i64.wrap ((wrap64 (a3 + x14_1)) - a1)) = ji10 := (i64_w _).trans hji10
        by_cases c11 : 0 ≤ (ji10)
        ·
         rw [if_pos c11] at H
         have c11b0 : decide (0 ≤ (ji10)) = true := decide_eq_true c11
         clear c11
         by_cases c12 : (rd l0 (ji10)) = (rd l2 x14_1)
         ·
          rw [if_pos c12] at H
          have c12b0 : ((rd l0 (ji10)) == (rd l2 x14_1)) = true := beq_iff_eq.mpr c12
          have c12b1 : ((rd l0 (ji10)) != (rd l2 x14_1)) = false := bne_eq_false_iff_eq.mpr c12
          clear c12
          have H' := am H
          clear H
          have p490 : 0 ≤ (x14_1 : Int) := of_decide_eq_true az
          have q490 : x14_1 < (l2.length : Int) := of_decide_eq_true az
          obtain ⟨ad490, e490, hx490_0⟩ := Kd.at_int HR2.out x14_1 p490 q490
          cases e490
          replace p490 := eq_true p490
          replace q490 := eq_true q490
          have p491 : 0 ≤ ((ji10) : Int) := of_decide_eq_true az
          have q491 : (ji10) < (l0.length : Int) := of_decide_eq_true az
          obtain ⟨ad491, e491, hx491_0⟩ := Kd.at_int HR0.out (ji10) p491 q491
          cases e491
          replace p491 := eq_true p491
          replace q491 := eq_true q491
          go_wp2
          go_roundg k1
          case measure => have := HK1.out; omega
          case rel => exact ⟨(wrap64 (x14_1 + 1)), (by first | rfl | (simp; done) | (simp [*]; done)), H', ⟨by have := HK1.out; omega⟩, by repeat (first | exact Drawn0.refl _ | apply Drawn0.step)⟩
         ·
          rw [if_neg c12] at H
          have c12b0 : ((rd l0 (ji10)) == (rd l2 x14_1)) = false := beq_eq_false_iff_ne.mpr c12
          have c12b1 : ((rd l0 (ji10)) != (rd l2 x14_1)) = true := bne_iff_ne.mpr c12
          obtain rfl := Option.some.inj H
          have p490 : 0 ≤ (x14_1 : Int) := of_decide_eq_true az
          have q490 : x14_1 < (l2.length : Int) := of_decide_eq_true az
          obtain ⟨ad490, e490, hx490_0⟩ := Kd.at_int HR2.out x14_1 p490 q490
          cases e490
          replace p490 := eq_true p490
          replace q490 := eq_true q490
          have p491 : 0 ≤ ((ji10) : Int) := of_decide_eq_true az
          have q491 : (ji10) < (l0.length : Int) := of_decide_eq_true az
          obtain ⟨ad491, e491, hx491_0⟩ := Kd.at_int HR0.out (ji10) p491 q491
          cases e491
          replace p491 := eq_true p491
          replace q491 := eq_true q491
          go_wp2
          go_ret
          exact ⟨by first | rfl | (simp; done) | (simp only [← hji10] <;> (first | rfl | simp)) | (simp [*]; done), by repeat (first | exact Drawn0.refl _ | apply Drawn0.step)⟩
        ·
         rw [if_neg c11] at H
         exact absurd H (by simp)
       ·
        rw [if_neg c9] at H
        have c9b0 : decide ((wrap64 ((wrap64 (a3 + x14_1)) - a1)) < (l0.length : Int)) = false := decide_eq_false c9
        clear c9
        have H' := am H
        clear H
        have p490 : 0 ≤ (x14_1 : Int) := of_decide_eq_true az
        have q490 : x14_1 < (l2.length : Int) := of_decide_eq_true az
        obtain ⟨ad490, e490, hx490_0⟩ := Kd.at_int HR2.out x14_1 p490 q490
        cases e490
        replace p490 := eq_true p490
        replace q490 := eq_true q490
        go_wp2
        go_roundg k1
        case measure => have := HK1.out; omega
        case rel => exact ⟨(wrap64 (x14_1 + 1)), (by first | rfl | (simp; done) | (simp [*]; done)), H', ⟨by have := HK1.out; omega⟩, by repeat (first | exact Drawn0.refl _ | apply Drawn0.step)⟩
      ·
       rw [if_neg c8] at H
       have c8b0 : decide (0 ≤ (wrap64 ((wrap64 (a3 + x14_1)) - a1))) = false := decide_eq_false c8
       clear c8
       have H' := am H
       clear H
       have p490 : 0 ≤ (x14_1 : Int) := of_decide_eq_true az
       have q490 : x14_1 < (l2.length : Int) := of_decide_eq_true az
       obtain ⟨ad490, e490, hx490_0⟩ := Kd.at_int HR2.out x14_1 p490 q490
       cases e490
       replace p490 := eq_true p490
       replace q490 := eq_true q490
       go_wp2
       go_roundg k1
       case measure => have := HK1.out; omega
       case rel => exact ⟨(wrap64 (x14_1 + 1)), (by first | rfl | (simp; done) | (simp [*]; done)), H', ⟨by have := HK1.out; omega⟩, by repeat (first | exact Drawn0.refl _ | apply Drawn0.step)⟩
     ·
      rw [if_neg c7] at H
      exact absurd H (by simp)
    ·
     rw [if_neg c6] at H
     exact absurd H (by simp)
   ·
    rw [if_neg c5] at H
    have c5b0 : decide (x14_1 < (l2.length : Int)) = false := decide_eq_false c5
    clear c5
    obtain rfl := Option.some.inj H
    go_wp2
    go_ret
    exact ⟨by first | rfl | (simp; done) | (simp [*]; done), by repeat (first | exact Drawn0.refl _ | apply Drawn0.step)⟩

/-! ### examboardref53_Rest: function 25 -/
def examboardref53_Rest.f (k : Nat) (a0_0 : Int) (l0_1 : List Int) (l0_2 : List (S25)) (l1 : List Int) (a2 : Int) : Option ((List (S25)) × Int) := if (l0_1.length : Int) > (l1.length : Int) then (some (([] : List (S25)), 11)) else ((examboardref53_agree.f k l0_1 0 l1 0).bind fun t493 => (if t493 = true then ((examboardref53_divide.f k a0_0 l1 (l0_1.length : Int) a2).bind fun bt494 => (some (bt494.1, bt494.2))) else (some (([] : List (S25)), 11))))
theorem examboardref53_Rest.mono : ∀ a0 a1 a2 a3 a4 k, LeO (examboardref53_Rest.f k a0 a1 a2 a3 a4) (examboardref53_Rest.f (k + 1) a0 a1 a2 a3 a4) := by
 intro a0 a1 a2 a3 a4 k
 unfold examboardref53_Rest.f
 repeat' first
   | (with_reducible exact examboardref53_agree.mono _ _ _ _ _)
   | (with_reducible exact examboardref53_divide.mono _ _ _ _ _)
   | (with_reducible exact LeO.refl _)
   | (with_reducible exact LeO.none _)
   | (with_reducible refine LeO.ite ?_ ?_)
   | (with_reducible refine LeO.bind ?_ (fun _ => ?_))
   | exact examboardref53_agree.mono _ _ _ _ _
   | exact examboardref53_divide.mono _ _ _ _ _
   | exact LeO.none _
   | refine LeO.ite ?_ ?_
   | refine LeO.bind ?_ (fun _ => ?_)
set_option maxHeartbeats 8000000 in
set_option maxRecDepth 100000 in
theorem examboardref53_Rest.calls (k : Nat) (a0_0 : Int) (A0_1 : Option Addr) (c0_1 : Nat) (l0_1 : List Int) (A0_2 : Option Addr) (c0_2 : Nat) (l0_2 : List (S25)) (A1 : Option Addr) (c1 : Nat) (l1 : List Int) (a2 : Int) (r1 : List (S25)) (r2 : Int) (w : World) (hr0_1 : Kd.C (Kd.int .u8) w A0_1 l0_1.length l0_1) (hc0_1 : l0_1.length ≤ c0_1) (hr0_2 : Kd.C k25 w A0_2 l0_2.length l0_2) (hc0_2 : l0_2.length ≤ c0_2) (hr1 : Kd.C (Kd.int .u8) w A1 l1.length l1) (hc1 : l1.length ≤ c1) (h : examboardref53_Rest.f k a0_0 l0_1 l0_2 l1 a2 = some (r1, r2)) :
  Calls Try.prog 25 #[.agg #[.int .i64 a0_0, .slice A0_1 l0_1.length c0_1, .slice A0_2 l0_2.length c0_2], .slice A1 l1.length c1, .int .i64 a2] w fun e w' => ∃ v0_ : Value, e = .returned (.tuple #[v0_, .int .i64 r2]) ∧ Kd.S k25 25 w' w.heap.size (fun _ => True) v0_ r1 ∧ Below w.heap.size w w' := by
 have hu34 := Try.underlying34
 have HR0_1 := am hr0_1
 have HC0_1 := am hc0_1
 clear hr0_1 hc0_1
 have HR0_2 := am hr0_2
 have HC0_2 := am hc0_2
 clear hr0_2 hc0_2
 have HR1 := am hr1
 have HC1 := am hc1
 clear hr1 hc1
 have HB := am (Below.refl w.heap.size w)
 have H : (if (l0_1.length : Int) > (l1.length : Int) then (some (([] : List (S25)), 11)) else ((examboardref53_agree.f k l0_1 0 l1 0).bind fun t493 => (if t493 = true then ((examboardref53_divide.f k a0_0 l1 (l0_1.length : Int) a2).bind fun bt494 => (some (bt494.1, bt494.2))) else (some (([] : List (S25)), 11))))) = some (r1, r2) := h
 clear h
 by_cases c4 : (l0_1.length : Int) > (l1.length : Int)
 ·
  rw [if_pos c4] at H
  have c4b0 : decide ((l1.length : Int) < (l0_1.length : Int)) = true := decide_eq_true c4
  have c4b1 : decide (l1.length < l0_1.length) = true := decide_eq_true (Int.ofNat_lt.mp c4)
  clear c4
  simp only [Option.some.injEq, Prod.mk.injEq] at H
  obtain ⟨rfl, rfl⟩ := H
  go_enter Try.func25, Try.ntmps25
  go_wp2_with (first | ((with_reducible refine gate_dst (N := 3) rfl ?_); refine box_event ?hg (N := 3) ?hd (cs := #[.int .i64 a0_0, .slice A0_1 l0_1.length c0_1, .slice A0_2 l0_2.length c0_2]) (t := 34) ?hr ?_; (case hd => rfl); (case hg => rfl); (case hr => exact gz); intro gb492 hg w5 hbox hb; have n0_ := am (below_step (hz HB.out) hb); have n1_ := am (hbox); have n2_ := am ((bs hg (hz HB.out) : w.heap.size ≤ gb492)); have n3_ := am ((bs hg (hz HB.out) : w.heap.size ≤ gb492)); clear HB; have HB := n0_; have BK492 := n1_; have GW492 := n2_; have GE492 := n3_; clear n0_ n1_ n2_ n3_; clear hb hbox hg; obtain ⟨hcz6_0, hcz6_1, hcz6_2⟩ := cs3 BK492.out; obtain ⟨hfz6_0, hfz6_1, hfz6_2⟩ := fs3 BK492.out))
  go_ret2
  exact ⟨_, by first | rfl | (simp [errW_none, errW_some] <;> rfl) | (simp [*, errW_none, errW_some] <;> rfl), by first | exact Kd.S_nil _ _ _ _ _ | exact Kd.N_nil _ _ _ _ _ | exact Kd.V_nil _ _ _ _ _ | exact Kd.Q_nil _ _ _ _ _ | exact Kd.R_nil _ _ _ _ _, hz1 HB.out GE492.out⟩
 ·
  rw [if_neg c4] at H
  have c4b0 : decide ((l1.length : Int) < (l0_1.length : Int)) = false := decide_eq_false c4
  have c4b1 : decide (l1.length < l0_1.length) = false := decide_eq_false (fun h => c4 (Int.ofNat_lt.mpr h))
  clear c4
  replace H := Option.bind_eq_some_iff.mp H
  obtain ⟨t493, A70, H⟩ := H
  replace H : (if t493 = true then ((examboardref53_divide.f k a0_0 l1 (l0_1.length : Int) a2).bind fun bt494 => (some (bt494.1, bt494.2))) else (some (([] : List (S25)), 11))) = some (r1, r2) := H
  have A7 := am A70
  clear A70
  by_cases c8 : t493 = true
  ·
   subst c8
   have H1 : ((examboardref53_divide.f k a0_0 l1 (l0_1.length : Int) a2).bind fun bt494 => (some (bt494.1, bt494.2))) = some (r1, r2) := by rw [if_pos rfl] at H; exact H
   clear H
   have H := H1
   clear H1
   replace H := Option.bind_eq_some_iff.mp H
   obtain ⟨⟨t494, t495⟩, A90, H⟩ := H
   replace H : (some (t494, t495)) = some (r1, r2) := H
   have A9 := am A90
   clear A90
   simp only [Option.some.injEq, Prod.mk.injEq] at H
   obtain ⟨rfl, rfl⟩ := H
   go_enter Try.func25, Try.ntmps25
   go_wp2_with (first | ((with_reducible refine gate_dst (N := 3) rfl ?_); refine box_event ?hg (N := 3) ?hd (cs := #[.int .i64 a0_0, .slice A0_1 l0_1.length c0_1, .slice A0_2 l0_2.length c0_2]) (t := 34) ?hr ?_; (case hd => rfl); (case hg => rfl); (case hr => exact gz); intro gb492 hg w10 hbox hb; have n0_ := am (below_step (hz HB.out) hb); have n1_ := am (hbox); have n2_ := am ((bs hg (hz HB.out) : w.heap.size ≤ gb492)); have n3_ := am ((bs hg (hz HB.out) : w.heap.size ≤ gb492)); clear HB; have HB := n0_; have BK492 := n1_; have GW492 := n2_; have GE492 := n3_; clear n0_ n1_ n2_ n3_; clear hb hbox hg; obtain ⟨hcz11_0, hcz11_1, hcz11_2⟩ := cs3 BK492.out; obtain ⟨hfz11_0, hfz11_1, hfz11_2⟩ := fs3 BK492.out) | (go_at_call 45; (with_reducible refine (examboardref53_agree.calls k _ _ l0_1 0 _ _ l1 0 true _ ?side1 ?side2 ?side3 ?side4 A7.out).mono ?_); (case side1 => exact cz (Kd.C_below HR0_1.out HB.out)); (case side2 => exact HC0_1.out); (case side3 => exact cz (Kd.C_below HR1.out HB.out)); (case side4 => exact HC1.out); rintro e w' ⟨rfl, ⟨nd, rfl⟩⟩) | ((with_reducible refine gate_callee (f := 33) rfl ?_); refine goesL_ (some 28) rfl rfl Try.func33 (by kernel_rfl) rfl #[.int .i64 a0_0, .slice A1 l1.length c1, .int .i64 (l0_1.length : Int), .int .i64 a2] rfl lz ?_; (with_reducible refine (examboardref53_divide.calls k a0_0 _ _ l1 (l0_1.length : Int) a2 t494 t495 _ ?side1 ?side2 A9.out).mono ?_); (case side1 => repeat (first | exact (Kd.C_below HR1.out (hz1 HB.out GE492.out)) | (with_reducible refine Kd.C_alloc ?_ _) | (with_reducible refine Kd.C_drewN ?_ _) | (with_reducible refine Kd.C_drew ?_))); (case side2 => exact HC1.out); rintro e w12 ⟨v496, rfl, ho0, hb⟩; refine ⟨_, rfl, ?_⟩; have n0_ := am (Kd.S_lower ho0 (below_size (hz1 HB.out GE492.out))); have n1_ := am (blk_below (bz BK492.out) hb); have n2_ := am (below_step (hz1 HB.out GE492.out) hb); clear BK492; clear HB; have HO497 := n0_; have BK492 := n1_; have HB := n2_; clear n0_ n1_ n2_; (try clear hb); (try clear hb2); (try clear hk); (try clear hi); (try clear ho0)))
   go_ret2
   exact ⟨_, by first | rfl | (simp [errW_none, errW_some] <;> rfl) | (simp [*, errW_none, errW_some] <;> rfl), by (with_reducible repeat (first | apply Kd.S_alloc | apply Kd.S_drewN | apply Kd.S_drew)); exact HO497.out, hz1 HB.out GE492.out⟩
  ·
   replace c8 := Bool.eq_false_iff.mpr c8
   subst c8
   have H1 : (some (([] : List (S25)), 11)) = some (r1, r2) := by rw [if_neg (show ¬ (false = true) by decide)] at H; exact H
   clear H
   have H := H1
   clear H1
   simp only [Option.some.injEq, Prod.mk.injEq] at H
   obtain ⟨rfl, rfl⟩ := H
   go_enter Try.func25, Try.ntmps25
   go_wp2_with (first | ((with_reducible refine gate_dst (N := 3) rfl ?_); refine box_event ?hg (N := 3) ?hd (cs := #[.int .i64 a0_0, .slice A0_1 l0_1.length c0_1, .slice A0_2 l0_2.length c0_2]) (t := 34) ?hr ?_; (case hd => rfl); (case hg => rfl); (case hr => exact gz); intro gb492 hg w13 hbox hb; have n0_ := am (below_step (hz HB.out) hb); have n1_ := am (hbox); have n2_ := am ((bs hg (hz HB.out) : w.heap.size ≤ gb492)); have n3_ := am ((bs hg (hz HB.out) : w.heap.size ≤ gb492)); clear HB; have HB := n0_; have BK492 := n1_; have GW492 := n2_; have GE492 := n3_; clear n0_ n1_ n2_ n3_; clear hb hbox hg; obtain ⟨hcz14_0, hcz14_1, hcz14_2⟩ := cs3 BK492.out; obtain ⟨hfz14_0, hfz14_1, hfz14_2⟩ := fs3 BK492.out) | (go_at_call 45; (with_reducible refine (examboardref53_agree.calls k _ _ l0_1 0 _ _ l1 0 false _ ?side1 ?side2 ?side3 ?side4 A7.out).mono ?_); (case side1 => exact cz (Kd.C_below HR0_1.out HB.out)); (case side2 => exact HC0_1.out); (case side3 => exact cz (Kd.C_below HR1.out HB.out)); (case side4 => exact HC1.out); rintro e w' ⟨rfl, ⟨nd, rfl⟩⟩))
   go_ret2
   exact ⟨_, by first | rfl | (simp [errW_none, errW_some] <;> rfl) | (simp [*, errW_none, errW_some] <;> rfl), by first | exact Kd.S_nil _ _ _ _ _ | exact Kd.N_nil _ _ _ _ _ | exact Kd.V_nil _ _ _ _ _ | exact Kd.Q_nil _ _ _ _ _ | exact Kd.R_nil _ _ _ _ _, hz1 HB.out GE492.out⟩

end Go.Proofs.Ytglpnbcockancaa.Q
