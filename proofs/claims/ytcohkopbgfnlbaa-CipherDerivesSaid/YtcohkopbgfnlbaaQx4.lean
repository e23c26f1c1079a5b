/- Made by wip/myprint.py of this session (it drives the kit's printer): what the calls of the Go functions come to, as plain Lean functions, and the row of a law over them; without conditions. -/
import Derived.Test.YtcohkopbgfnlbaaQx0
import Derived.Test.YtcohkopbgfnlbaaQx1
import Derived.Test.YtcohkopbgfnlbaaQx2
namespace Go.Proofs.Ytcohkopbgfnlbaa.Q
open Go.RowKit Go.Proofs.YtcohkopbgfnlbaaW.PrintWords Go.Proofs.YtcohkopbgfnlbaaW.PrintLast Go.Proofs.YtcohkopbgfnlbaaW.PrintMore
attribute [local go_sem] max2_int min2_int max_two min_two max_three min_three max_four min_four   -- for this text's walks alone
set_option linter.unusedVariables false
set_option linter.unusedSimpArgs false

/-! ### examboardlaw12_CipherStream: function 5 -/
mutual
def examboardlaw12_CipherStream.j0 : Nat → Int → Int → List Int → List Int → Bool → Option (Bool)
  | 0, _, _, _, _, _ => none
  | k + 1, x0, x1, x2, x3, x21 => if x21 = true then (some true) else ((cipher_Seal.f k x0 x1 x2).bind fun bt208 => ((cipher_Seal.f k x0 x1 x3).bind fun bt212 => (if bt208.2 = 0 then (if bt212.2 = 0 then (if (bt208.1.length : Int) = (wrap64 ((x2.length : Int) + 16)) then (examboardlaw12_CipherStream.j1 k x2 x3 bt208.1 bt212.1 ((bt212.1.length : Int) != (wrap64 ((x3.length : Int) + 16)))) else (examboardlaw12_CipherStream.j1 k x2 x3 bt208.1 bt212.1 true)) else (examboardlaw12_CipherStream.j1 k x2 x3 bt208.1 bt212.1 true)) else (examboardlaw12_CipherStream.j1 k x2 x3 bt208.1 bt212.1 true))))
def examboardlaw12_CipherStream.j1 : Nat → List Int → List Int → List Int → List Int → Bool → Option (Bool)
  | 0, _, _, _, _, _ => none
  | k + 1, x2, x3, x9, x11, x57 => if x57 = true then (some false) else (examboardlaw12_CipherStream.l0 k x2 x3 x9 x11 0)
def examboardlaw12_CipherStream.l0 : Nat → List Int → List Int → List Int → List Int → Int → Option (Bool)
  | 0, _, _, _, _, _ => none
  | k + 1, x2, x3, x9, x11, x13 => if x13 < (x2.length : Int) then (examboardlaw12_CipherStream.j3 k x2 x3 x9 x11 x13 (decide (x13 < (x3.length : Int)))) else (examboardlaw12_CipherStream.j3 k x2 x3 x9 x11 x13 false)
def examboardlaw12_CipherStream.j3 : Nat → List Int → List Int → List Int → List Int → Int → Bool → Option (Bool)
  | 0, _, _, _, _, _, _ => none
  | k + 1, x2, x3, x9, x11, x13, x67 => if x67 = true then (if 0 ≤ (wrap64 (8 + x13)) then (if (wrap64 (8 + x13)) < (x9.length : Int) then (if (wrap64 (8 + x13)) < (x11.length : Int) then (if 0 ≤ x13 then (if x13 < (x2.length : Int) then (if x13 < (x3.length : Int) then (if (Go.bits .xor .u8 (rd x9 (wrap64 (8 + x13))) (rd x11 (wrap64 (8 + x13)))) = (Go.bits .xor .u8 (rd x2 x13) (rd x3 x13)) then (examboardlaw12_CipherStream.l0 k x2 x3 x9 x11 (wrap64 (x13 + 1))) else (some false)) else (none)) else (none)) else (none)) else (none)) else (none)) else (none)) else (some true)
end
def examboardlaw12_CipherStream.f (k : Nat) (a0 : Int) (a1 : Int) (l2 : List Int) (l3 : List Int) : Option (Bool) := if (l2.length : Int) > 4000 then (examboardlaw12_CipherStream.j0 k a0 a1 l2 l3 true) else (examboardlaw12_CipherStream.j0 k a0 a1 l2 l3 (decide ((l3.length : Int) > 4000)))
theorem examboardlaw12_CipherStream.mono_l : ∀ k, (∀ y0 y1 y2 y3 y4, LeO (examboardlaw12_CipherStream.j0 k y0 y1 y2 y3 y4) (examboardlaw12_CipherStream.j0 (k + 1) y0 y1 y2 y3 y4)) ∧ (∀ y0 y1 y2 y3 y4, LeO (examboardlaw12_CipherStream.j1 k y0 y1 y2 y3 y4) (examboardlaw12_CipherStream.j1 (k + 1) y0 y1 y2 y3 y4)) ∧ (∀ y0 y1 y2 y3 y4, LeO (examboardlaw12_CipherStream.l0 k y0 y1 y2 y3 y4) (examboardlaw12_CipherStream.l0 (k + 1) y0 y1 y2 y3 y4)) ∧ (∀ y0 y1 y2 y3 y4 y5, LeO (examboardlaw12_CipherStream.j3 k y0 y1 y2 y3 y4 y5) (examboardlaw12_CipherStream.j3 (k + 1) y0 y1 y2 y3 y4 y5))
  | 0 => ⟨fun _ _ _ _ _ r h => by simp [examboardlaw12_CipherStream.j0] at h, fun _ _ _ _ _ r h => by simp [examboardlaw12_CipherStream.j1] at h, fun _ _ _ _ _ r h => by simp [examboardlaw12_CipherStream.l0] at h, fun _ _ _ _ _ _ r h => by simp [examboardlaw12_CipherStream.j3] at h⟩
  | k + 1 => by
    obtain ⟨ih0, ih1, ih2, ih3⟩ := examboardlaw12_CipherStream.mono_l k
    refine ⟨?_, ?_, ?_, ?_⟩
    · intro y0 y1 y2 y3 y4
      unfold examboardlaw12_CipherStream.j0
      repeat' first
      | (with_reducible exact ih0 _ _ _ _ _)
      | (with_reducible exact ih1 _ _ _ _ _)
      | (with_reducible exact ih2 _ _ _ _ _)
      | (with_reducible exact ih3 _ _ _ _ _ _)
      | (with_reducible exact cipher_Seal.mono _ _ _ _)
      | (with_reducible exact LeO.refl _)
      | (with_reducible exact LeO.none _)
      | (with_reducible refine LeO.ite ?_ ?_)
      | (with_reducible refine LeO.bind ?_ (fun _ => ?_))
      | exact ih0 _ _ _ _ _
      | exact ih1 _ _ _ _ _
      | exact ih2 _ _ _ _ _
      | exact ih3 _ _ _ _ _ _
      | exact cipher_Seal.mono _ _ _ _
      | exact LeO.none _
      | refine LeO.ite ?_ ?_
      | refine LeO.bind ?_ (fun _ => ?_)
    · intro y0 y1 y2 y3 y4
      unfold examboardlaw12_CipherStream.j1
      repeat' first
      | (with_reducible exact ih0 _ _ _ _ _)
      | (with_reducible exact ih1 _ _ _ _ _)
      | (with_reducible exact ih2 _ _ _ _ _)
      | (with_reducible exact ih3 _ _ _ _ _ _)
      | (with_reducible exact cipher_Seal.mono _ _ _ _)
      | (with_reducible exact LeO.refl _)
      | (with_reducible exact LeO.none _)
      | (with_reducible refine LeO.ite ?_ ?_)
      | (with_reducible refine LeO.bind ?_ (fun _ => ?_))
      | exact ih0 _ _ _ _ _
      | exact ih1 _ _ _ _ _
      | exact ih2 _ _ _ _ _
      | exact ih3 _ _ _ _ _ _
      | exact cipher_Seal.mono _ _ _ _
      | exact LeO.none _
      | refine LeO.ite ?_ ?_
      | refine LeO.bind ?_ (fun _ => ?_)
    · intro y0 y1 y2 y3 y4
      unfold examboardlaw12_CipherStream.l0
      repeat' first
      | (with_reducible exact ih0 _ _ _ _ _)
      | (with_reducible exact ih1 _ _ _ _ _)
      | (with_reducible exact ih2 _ _ _ _ _)
      | (with_reducible exact ih3 _ _ _ _ _ _)
      | (with_reducible exact cipher_Seal.mono _ _ _ _)
      | (with_reducible exact LeO.refl _)
      | (with_reducible exact LeO.none _)
      | (with_reducible refine LeO.ite ?_ ?_)
      | (with_reducible refine LeO.bind ?_ (fun _ => ?_))
      | exact ih0 _ _ _ _ _
      | exact ih1 _ _ _ _ _
      | exact ih2 _ _ _ _ _
      | exact ih3 _ _ _ _ _ _
      | exact cipher_Seal.mono _ _ _ _
      | exact LeO.none _
      | refine LeO.ite ?_ ?_
      | refine LeO.bind ?_ (fun _ => ?_)
    · intro y0 y1 y2 y3 y4 y5
      unfold examboardlaw12_CipherStream.j3
      repeat' first
      | (with_reducible exact ih0 _ _ _ _ _)
      | (with_reducible exact ih1 _ _ _ _ _)
      | (with_reducible exact ih2 _ _ _ _ _)
      | (with_reducible exact ih3 _ _ _ _ _ _)
      | (with_reducible exact cipher_Seal.mono _ _ _ _)
      | (with_reducible exact LeO.refl _)
      | (with_reducible exact LeO.none _)
      | (with_reducible refine LeO.ite ?_ ?_)
      | (with_reducible refine LeO.bind ?_ (fun _ => ?_))
      | exact ih0 _ _ _ _ _
      | exact ih1 _ _ _ _ _
      | exact ih2 _ _ _ _ _
      | exact ih3 _ _ _ _ _ _
      | exact cipher_Seal.mono _ _ _ _
      | exact LeO.none _
      | refine LeO.ite ?_ ?_
      | refine LeO.bind ?_ (fun _ => ?_)
theorem examboardlaw12_CipherStream.mono : ∀ a0 a1 a2 a3 k, LeO (examboardlaw12_CipherStream.f k a0 a1 a2 a3) (examboardlaw12_CipherStream.f (k + 1) a0 a1 a2 a3) := by
  intro a0 a1 a2 a3 k
  obtain ⟨ih0, ih1, ih2, ih3⟩ := examboardlaw12_CipherStream.mono_l k
  unfold examboardlaw12_CipherStream.f
  repeat' first
      | (with_reducible exact ih0 _ _ _ _ _)
      | (with_reducible exact ih1 _ _ _ _ _)
      | (with_reducible exact ih2 _ _ _ _ _)
      | (with_reducible exact ih3 _ _ _ _ _ _)
      | (with_reducible exact cipher_Seal.mono _ _ _ _)
      | (with_reducible exact LeO.refl _)
      | (with_reducible exact LeO.none _)
      | (with_reducible refine LeO.ite ?_ ?_)
      | (with_reducible refine LeO.bind ?_ (fun _ => ?_))
      | exact ih0 _ _ _ _ _
      | exact ih1 _ _ _ _ _
      | exact ih2 _ _ _ _ _
      | exact ih3 _ _ _ _ _ _
      | exact cipher_Seal.mono _ _ _ _
      | exact LeO.none _
      | refine LeO.ite ?_ ?_
      | refine LeO.bind ?_ (fun _ => ?_)
set_option maxHeartbeats 8000000 in
set_option maxRecDepth 100000 in
theorem examboardlaw12_CipherStream.calls (k : Nat) (a0 : Int) (a1 : Int) (A2 : Option Addr) (c2 : Nat) (l2 : List Int) (A3 : Option Addr) (c3 : Nat) (l3 : List Int) (r : Bool) (w : World) (hr2 : Kd.C (Kd.int .u8) w A2 l2.length l2) (hc2 : l2.length ≤ c2) (hr3 : Kd.C (Kd.int .u8) w A3 l3.length l3) (hc3 : l3.length ≤ c3) (h : examboardlaw12_CipherStream.f k a0 a1 l2 l3 = some r) :
    Calls Try.prog 5 #[.int .u64 a0, .int .u64 a1, .slice A2 l2.length c2, .slice A3 l3.length c3] w fun e w' => e = .returned (.bool r) ∧ Below w.heap.size w w' := by
  have HR2 := Aside0.mk hr2
  have HC2 := Aside0.mk hc2
  clear hr2 hc2
  have HR3 := Aside0.mk hr3
  have HC3 := Aside0.mk hc3
  clear hr3 hc3
  have HB := Aside0.mk (Below.refl w.heap.size w)
  have H : (if (l2.length : Int) > 4000 then (examboardlaw12_CipherStream.j0 k a0 a1 l2 l3 true) else (examboardlaw12_CipherStream.j0 k a0 a1 l2 l3 (decide ((l3.length : Int) > 4000)))) = some r := h
  clear h
  have HC5 := Aside0.mk H
  clear H
  go_enter Try.func5, Try.ntmps5
  go_upto_region 1 with (fail)
  repeat (go_quiet (fail); go_upto_region 1 with (fail))
  go_cut [21] (fun v21 wc => ∃ (kq : Nat) (x21_4 : Bool), v21 = .bool x21_4 ∧ Aside0 (examboardlaw12_CipherStream.j0 kq a0 a1 l2 l3 x21_4 = some r) ∧ Aside0 (kq ≤ k) ∧ Aside0 (Below w.heap.size w wc))
  case first =>
    have H := HC5.out
    clear HC5
    by_cases c6 : (l2.length : Int) > 4000
    · rw [if_pos c6] at H
      have c6b0 : decide (4000 < (l2.length : Int)) = true := decide_eq_true c6
      have c6b1 : decide (4000 < l2.length) = true := decide_eq_true (by omega)
      clear c6
      (first | rw [c6b0] | (simp only [i64_w, i32_w]; rw [c6b0]) | skip)
      have H' := Aside0.mk H
      clear H
      go_wp2
      repeat (go_quiet (fail); try go_wp2)
      go_meet
      case rel => exact ⟨_, (true), (by first | rfl | (simp; done) | (simp [*]; done)), H', ⟨by first | omega | exact Nat.le_refl _⟩, ⟨by repeat (first | (with_reducible first | exact HB.out | apply below_alloc | apply pw_below_drewN | apply below_drew1) | exact HB.out)⟩⟩
    · rw [if_neg c6] at H
      have c6b0 : decide (4000 < (l2.length : Int)) = false := decide_eq_false c6
      have c6b1 : decide (4000 < l2.length) = false := decide_eq_false (by omega)
      clear c6
      (first | rw [c6b0] | (simp only [i64_w, i32_w]; rw [c6b0]) | skip)
      have H' := Aside0.mk H
      clear H
      go_wp2
      repeat (go_quiet (fail); try go_wp2)
      go_meet
      case rel => exact ⟨_, (decide ((l3.length : Int) > 4000)), (by first | rfl | (simp; done) | (simp [*]; done)), H', ⟨by first | omega | exact Nat.le_refl _⟩, ⟨by repeat (first | (with_reducible first | exact HB.out | apply below_alloc | apply pw_below_drewN | apply below_drew1) | exact HB.out)⟩⟩
  case rest =>
    clear HC5
    try clear c2
    try clear p2
    try clear c3
    try clear c5
    try clear c6
    try clear c6b0
    try clear c6b1
    obtain ⟨kq, x21_4, rfl, HA, HJ4, HB⟩ := hcut
    cases kq with
    | zero => exact absurd HA.out (by simp [examboardlaw12_CipherStream.j0])
    | succ kj4 =>
      have H := HA.out
      clear HA
      simp only [examboardlaw12_CipherStream.j0] at H
      by_cases c7 : x21_4 = true
      · subst c7
        have H1 : (some true) = some r := by rw [if_pos rfl] at H; exact H
        clear H
        have H := H1
        clear H1
        obtain rfl := Option.some.inj H
        go_wp2
        repeat (go_quiet (fail); try go_wp2)
        go_ret
        exact ⟨by first | rfl | (simp [errW_none, errW_some] <;> rfl) | (simp [*, errW_none, errW_some] <;> rfl), by repeat (first | (with_reducible first | exact HB.out | apply below_alloc | apply pw_below_drewN | apply below_drew1) | exact HB.out)⟩
      · replace c7 := Bool.eq_false_iff.mpr c7
        subst c7
        have H1 : ((cipher_Seal.f kj4 a0 a1 l2).bind fun bt208 => ((cipher_Seal.f kj4 a0 a1 l3).bind fun bt212 => (if bt208.2 = 0 then (if bt212.2 = 0 then (if (bt208.1.length : Int) = (wrap64 ((l2.length : Int) + 16)) then (examboardlaw12_CipherStream.j1 kj4 l2 l3 bt208.1 bt212.1 ((bt212.1.length : Int) != (wrap64 ((l3.length : Int) + 16)))) else (examboardlaw12_CipherStream.j1 kj4 l2 l3 bt208.1 bt212.1 true)) else (examboardlaw12_CipherStream.j1 kj4 l2 l3 bt208.1 bt212.1 true)) else (examboardlaw12_CipherStream.j1 kj4 l2 l3 bt208.1 bt212.1 true)))) = some r := by rw [if_neg (show ¬ (false = true) by decide)] at H; exact H
        clear H
        have H := H1
        clear H1
        replace H := Option.bind_eq_some_iff.mp H
        obtain ⟨⟨t208, t209⟩, A80, H⟩ := H
        replace H : ((cipher_Seal.f kj4 a0 a1 l3).bind fun bt212 => (if t209 = 0 then (if bt212.2 = 0 then (if (t208.length : Int) = (wrap64 ((l2.length : Int) + 16)) then (examboardlaw12_CipherStream.j1 kj4 l2 l3 t208 bt212.1 ((bt212.1.length : Int) != (wrap64 ((l3.length : Int) + 16)))) else (examboardlaw12_CipherStream.j1 kj4 l2 l3 t208 bt212.1 true)) else (examboardlaw12_CipherStream.j1 kj4 l2 l3 t208 bt212.1 true)) else (examboardlaw12_CipherStream.j1 kj4 l2 l3 t208 bt212.1 true))) = some r := H
        have A8 := Aside0.mk A80
        clear A80
        replace H := Option.bind_eq_some_iff.mp H
        obtain ⟨⟨t212, t213⟩, A90, H⟩ := H
        replace H : (if t209 = 0 then (if t213 = 0 then (if (t208.length : Int) = (wrap64 ((l2.length : Int) + 16)) then (examboardlaw12_CipherStream.j1 kj4 l2 l3 t208 t212 ((t212.length : Int) != (wrap64 ((l3.length : Int) + 16)))) else (examboardlaw12_CipherStream.j1 kj4 l2 l3 t208 t212 true)) else (examboardlaw12_CipherStream.j1 kj4 l2 l3 t208 t212 true)) else (examboardlaw12_CipherStream.j1 kj4 l2 l3 t208 t212 true)) = some r := H
        have A9 := Aside0.mk A90
        clear A90
        have HC10 := Aside0.mk H
        clear H
        go_upto_region 5 with (first | (go_at_call 12; (with_reducible refine (cipher_Seal.calls kj4 a0 a1 _ _ l2 t208 t209 _ ?side1 ?side2 A8.out).mono ?_); (case side1 => repeat (first | exact (Kd.C_below HR2.out HB.out) | (with_reducible refine Kd.C_alloc ?_ _) | (with_reducible refine Kd.C_drewN ?_ _) | (with_reducible refine Kd.C_drew ?_))); (case side2 => exact HC2.out); rintro e w11 ⟨v210, rfl, ho0, hb⟩; have n0_ := Aside0.mk (Kd.R_lower ho0 (below_size (by repeat (first | (with_reducible first | exact HB.out | apply below_alloc | apply pw_below_drewN | apply below_drew1) | exact HB.out)))); have n1_ := Aside0.mk (below_step (by repeat (first | (with_reducible first | exact HB.out | apply below_alloc | apply pw_below_drewN | apply below_drew1) | exact HB.out)) hb); clear HB; have HO211 := n0_; have HB := n1_; clear n0_ n1_; (try clear hb); (try clear hb2); (try clear hk); (try clear hi); (try clear ho0)) | (go_at_call 12; (with_reducible refine (cipher_Seal.calls kj4 a0 a1 _ _ l3 t212 t213 _ ?side1 ?side2 A9.out).mono ?_); (case side1 => repeat (first | exact (Kd.C_below HR3.out HB.out) | (with_reducible refine Kd.C_alloc ?_ _) | (with_reducible refine Kd.C_drewN ?_ _) | (with_reducible refine Kd.C_drew ?_))); (case side2 => exact HC3.out); rintro e w12 ⟨v214, rfl, ho0, hb⟩; have n0_ := Aside0.mk (Kd.R_elder' (by (with_reducible repeat (first | apply Kd.R_alloc | apply Kd.R_drewN | apply Kd.R_drew)); exact HO211.out) (Kd.R_base ho0) hb); have n1_ := Aside0.mk (Kd.R_lower (Kd.R_new' ho0 (Kd.R_lt (by (with_reducible repeat (first | apply Kd.R_alloc | apply Kd.R_drewN | apply Kd.R_drew)); exact HO211.out))) (below_size (by repeat (first | (with_reducible first | exact HB.out | apply below_alloc | apply pw_below_drewN | apply below_drew1) | exact HB.out)))); have n2_ := Aside0.mk (below_step (by repeat (first | (with_reducible first | exact HB.out | apply below_alloc | apply pw_below_drewN | apply below_drew1) | exact HB.out)) hb); clear HO211; clear HB; have HO211 := n0_; have HO215 := n1_; have HB := n2_; clear n0_ n1_ n2_; (try clear hb); (try clear hb2); (try clear hk); (try clear hi); (try clear ho0)))
        repeat (go_quiet (first | (go_at_call 12; (with_reducible refine (cipher_Seal.calls kj4 a0 a1 _ _ l2 t208 t209 _ ?side1 ?side2 A8.out).mono ?_); (case side1 => repeat (first | exact (Kd.C_below HR2.out HB.out) | (with_reducible refine Kd.C_alloc ?_ _) | (with_reducible refine Kd.C_drewN ?_ _) | (with_reducible refine Kd.C_drew ?_))); (case side2 => exact HC2.out); rintro e w11 ⟨v210, rfl, ho0, hb⟩; have n0_ := Aside0.mk (Kd.R_lower ho0 (below_size (by repeat (first | (with_reducible first | exact HB.out | apply below_alloc | apply pw_below_drewN | apply below_drew1) | exact HB.out)))); have n1_ := Aside0.mk (below_step (by repeat (first | (with_reducible first | exact HB.out | apply below_alloc | apply pw_below_drewN | apply below_drew1) | exact HB.out)) hb); clear HB; have HO211 := n0_; have HB := n1_; clear n0_ n1_; (try clear hb); (try clear hb2); (try clear hk); (try clear hi); (try clear ho0)) | (go_at_call 12; (with_reducible refine (cipher_Seal.calls kj4 a0 a1 _ _ l3 t212 t213 _ ?side1 ?side2 A9.out).mono ?_); (case side1 => repeat (first | exact (Kd.C_below HR3.out HB.out) | (with_reducible refine Kd.C_alloc ?_ _) | (with_reducible refine Kd.C_drewN ?_ _) | (with_reducible refine Kd.C_drew ?_))); (case side2 => exact HC3.out); rintro e w12 ⟨v214, rfl, ho0, hb⟩; have n0_ := Aside0.mk (Kd.R_elder' (by (with_reducible repeat (first | apply Kd.R_alloc | apply Kd.R_drewN | apply Kd.R_drew)); exact HO211.out) (Kd.R_base ho0) hb); have n1_ := Aside0.mk (Kd.R_lower (Kd.R_new' ho0 (Kd.R_lt (by (with_reducible repeat (first | apply Kd.R_alloc | apply Kd.R_drewN | apply Kd.R_drew)); exact HO211.out))) (below_size (by repeat (first | (with_reducible first | exact HB.out | apply below_alloc | apply pw_below_drewN | apply below_drew1) | exact HB.out)))); have n2_ := Aside0.mk (below_step (by repeat (first | (with_reducible first | exact HB.out | apply below_alloc | apply pw_below_drewN | apply below_drew1) | exact HB.out)) hb); clear HO211; clear HB; have HO211 := n0_; have HO215 := n1_; have HB := n2_; clear n0_ n1_ n2_; (try clear hb); (try clear hb2); (try clear hk); (try clear hi); (try clear ho0))); go_upto_region 5 with (first | (go_at_call 12; (with_reducible refine (cipher_Seal.calls kj4 a0 a1 _ _ l2 t208 t209 _ ?side1 ?side2 A8.out).mono ?_); (case side1 => repeat (first | exact (Kd.C_below HR2.out HB.out) | (with_reducible refine Kd.C_alloc ?_ _) | (with_reducible refine Kd.C_drewN ?_ _) | (with_reducible refine Kd.C_drew ?_))); (case side2 => exact HC2.out); rintro e w11 ⟨v210, rfl, ho0, hb⟩; have n0_ := Aside0.mk (Kd.R_lower ho0 (below_size (by repeat (first | (with_reducible first | exact HB.out | apply below_alloc | apply pw_below_drewN | apply below_drew1) | exact HB.out)))); have n1_ := Aside0.mk (below_step (by repeat (first | (with_reducible first | exact HB.out | apply below_alloc | apply pw_below_drewN | apply below_drew1) | exact HB.out)) hb); clear HB; have HO211 := n0_; have HB := n1_; clear n0_ n1_; (try clear hb); (try clear hb2); (try clear hk); (try clear hi); (try clear ho0)) | (go_at_call 12; (with_reducible refine (cipher_Seal.calls kj4 a0 a1 _ _ l3 t212 t213 _ ?side1 ?side2 A9.out).mono ?_); (case side1 => repeat (first | exact (Kd.C_below HR3.out HB.out) | (with_reducible refine Kd.C_alloc ?_ _) | (with_reducible refine Kd.C_drewN ?_ _) | (with_reducible refine Kd.C_drew ?_))); (case side2 => exact HC3.out); rintro e w12 ⟨v214, rfl, ho0, hb⟩; have n0_ := Aside0.mk (Kd.R_elder' (by (with_reducible repeat (first | apply Kd.R_alloc | apply Kd.R_drewN | apply Kd.R_drew)); exact HO211.out) (Kd.R_base ho0) hb); have n1_ := Aside0.mk (Kd.R_lower (Kd.R_new' ho0 (Kd.R_lt (by (with_reducible repeat (first | apply Kd.R_alloc | apply Kd.R_drewN | apply Kd.R_drew)); exact HO211.out))) (below_size (by repeat (first | (with_reducible first | exact HB.out | apply below_alloc | apply pw_below_drewN | apply below_drew1) | exact HB.out)))); have n2_ := Aside0.mk (below_step (by repeat (first | (with_reducible first | exact HB.out | apply below_alloc | apply pw_below_drewN | apply below_drew1) | exact HB.out)) hb); clear HO211; clear HB; have HO211 := n0_; have HO215 := n1_; have HB := n2_; clear n0_ n1_ n2_; (try clear hb); (try clear hb2); (try clear hk); (try clear hi); (try clear ho0))))
        (try simp only [Act.put, List.setIfInBounds_toArray, List.set_cons_zero, List.set_cons_succ])
        go_cut [57] (fun v57 wc => ∃ (kq : Nat) (x57_9 : Bool), v57 = .bool x57_9 ∧ Aside0 (examboardlaw12_CipherStream.j1 kq l2 l3 t208 t212 x57_9 = some r) ∧ Aside0 (kq ≤ kj4) ∧ Aside0 (Kd.R (Kd.int .u8) 5 wc w.heap.size (fun k_ => some k_ ≠ (v214 : Value).ownBlock) v210 t208) ∧ Aside0 (Kd.R (Kd.int .u8) 5 wc w.heap.size (fun k_ => some k_ ≠ (v210 : Value).ownBlock) v214 t212) ∧ Aside0 (Below w.heap.size w wc))
        case first =>
          have H := HC10.out
          clear HC10
          by_cases c13 : t209 = 0
          · rw [if_pos c13] at H
            have c13b0 : (t209 == 0) = true := beq_iff_eq.mpr c13
            have c13b1 : (t209 != 0) = false := bne_eq_false_iff_eq.mpr c13
            clear c13
            (first | rw [c13b0] | (simp only [i64_w, i32_w]; rw [c13b0]) | skip)
            by_cases c14 : t213 = 0
            · rw [if_pos c14] at H
              have c14b0 : (t213 == 0) = true := beq_iff_eq.mpr c14
              have c14b1 : (t213 != 0) = false := bne_eq_false_iff_eq.mpr c14
              clear c14
              by_cases c15 : (t208.length : Int) = (wrap64 ((l2.length : Int) + 16))
              · rw [if_pos c15] at H
                have c15b0 : ((t208.length : Int) == (wrap64 ((l2.length : Int) + 16))) = true := beq_iff_eq.mpr c15
                have c15b1 : ((t208.length : Int) != (wrap64 ((l2.length : Int) + 16))) = false := bne_eq_false_iff_eq.mpr c15
                clear c15
                have H' := Aside0.mk H
                clear H
                obtain ⟨Ao16, co16, eo16⟩ := Kd.R_slice HO211.out
                subst eo16
                obtain ⟨Ao17, co17, eo17⟩ := Kd.R_slice HO215.out
                subst eo17
                go_wp2
                repeat (go_quiet (fail); try go_wp2)
                go_meet
                case rel => exact ⟨_, (((t212.length : Int) != (wrap64 ((l3.length : Int) + 16)))), (by first | rfl | (simp; done) | (simp [*]; done)), H', ⟨by have := HJ4.out; first | omega | exact Nat.le_refl _⟩, ⟨by (with_reducible repeat (first | apply Kd.R_alloc | apply Kd.R_drewN | apply Kd.R_drew)); exact Kd.R_mono HO211.out (fun _ hk => hk.2)⟩, ⟨by (with_reducible repeat (first | apply Kd.R_alloc | apply Kd.R_drewN | apply Kd.R_drew)); exact Kd.R_mono HO215.out (fun _ hk => hk.2)⟩, ⟨by repeat (first | (with_reducible first | exact HB.out | apply below_alloc | apply pw_below_drewN | apply below_drew1) | exact HB.out)⟩⟩
              · rw [if_neg c15] at H
                have c15b0 : ((t208.length : Int) == (wrap64 ((l2.length : Int) + 16))) = false := beq_eq_false_iff_ne.mpr c15
                have c15b1 : ((t208.length : Int) != (wrap64 ((l2.length : Int) + 16))) = true := bne_iff_ne.mpr c15
                have H' := Aside0.mk H
                clear H
                obtain ⟨Ao18, co18, eo18⟩ := Kd.R_slice HO211.out
                subst eo18
                go_wp2
                repeat (go_quiet (fail); try go_wp2)
                go_meet
                case rel => exact ⟨_, (true), (by first | rfl | (simp; done) | (simp [*]; done)), H', ⟨by have := HJ4.out; first | omega | exact Nat.le_refl _⟩, ⟨by (with_reducible repeat (first | apply Kd.R_alloc | apply Kd.R_drewN | apply Kd.R_drew)); exact Kd.R_mono HO211.out (fun _ hk => hk.2)⟩, ⟨by (with_reducible repeat (first | apply Kd.R_alloc | apply Kd.R_drewN | apply Kd.R_drew)); exact Kd.R_mono HO215.out (fun _ hk => hk.2)⟩, ⟨by repeat (first | (with_reducible first | exact HB.out | apply below_alloc | apply pw_below_drewN | apply below_drew1) | exact HB.out)⟩⟩
            · rw [if_neg c14] at H
              have c14b0 : (t213 == 0) = false := beq_eq_false_iff_ne.mpr c14
              have c14b1 : (t213 != 0) = true := bne_iff_ne.mpr c14
              have H' := Aside0.mk H
              clear H
              go_wp2
              repeat (go_quiet (fail); try go_wp2)
              go_meet
              case rel => exact ⟨_, (true), (by first | rfl | (simp; done) | (simp [*]; done)), H', ⟨by have := HJ4.out; first | omega | exact Nat.le_refl _⟩, ⟨by (with_reducible repeat (first | apply Kd.R_alloc | apply Kd.R_drewN | apply Kd.R_drew)); exact Kd.R_mono HO211.out (fun _ hk => hk.2)⟩, ⟨by (with_reducible repeat (first | apply Kd.R_alloc | apply Kd.R_drewN | apply Kd.R_drew)); exact Kd.R_mono HO215.out (fun _ hk => hk.2)⟩, ⟨by repeat (first | (with_reducible first | exact HB.out | apply below_alloc | apply pw_below_drewN | apply below_drew1) | exact HB.out)⟩⟩
          · rw [if_neg c13] at H
            have c13b0 : (t209 == 0) = false := beq_eq_false_iff_ne.mpr c13
            have c13b1 : (t209 != 0) = true := bne_iff_ne.mpr c13
            (first | rw [c13b0] | (simp only [i64_w, i32_w]; rw [c13b0]) | skip)
            have H' := Aside0.mk H
            clear H
            go_wp2
            repeat (go_quiet (fail); try go_wp2)
            go_meet
            case rel => exact ⟨_, (true), (by first | rfl | (simp; done) | (simp [*]; done)), H', ⟨by have := HJ4.out; first | omega | exact Nat.le_refl _⟩, ⟨by (with_reducible repeat (first | apply Kd.R_alloc | apply Kd.R_drewN | apply Kd.R_drew)); exact Kd.R_mono HO211.out (fun _ hk => hk.2)⟩, ⟨by (with_reducible repeat (first | apply Kd.R_alloc | apply Kd.R_drewN | apply Kd.R_drew)); exact Kd.R_mono HO215.out (fun _ hk => hk.2)⟩, ⟨by repeat (first | (with_reducible first | exact HB.out | apply below_alloc | apply pw_below_drewN | apply below_drew1) | exact HB.out)⟩⟩
        case rest =>
          clear HC10
          try clear c1
          try clear c2
          try clear p2
          try clear c3
          try clear c5
          try clear c6
          try clear c6b0
          try clear c6b1
          try clear p6
          try clear c7
          try clear c13
          try clear c13b0
          try clear c13b1
          try clear c14
          try clear c14b0
          try clear c14b1
          try clear c15
          try clear c15b0
          try clear c15b1
          try clear p2
          obtain ⟨kq, x57_9, rfl, HA, HJ9, HO_9, HO_11, HB⟩ := hcut
          cases kq with
          | zero => exact absurd HA.out (by simp [examboardlaw12_CipherStream.j1])
          | succ kj9 =>
            have H := HA.out
            clear HA
            simp only [examboardlaw12_CipherStream.j1] at H
            by_cases c19 : x57_9 = true
            · subst c19
              have H1 : (some false) = some r := by rw [if_pos rfl] at H; exact H
              clear H
              have H := H1
              clear H1
              obtain rfl := Option.some.inj H
              go_wp2
              repeat (go_quiet (fail); try go_wp2)
              go_ret
              exact ⟨by first | rfl | (simp [errW_none, errW_some] <;> rfl) | (simp [*, errW_none, errW_some] <;> rfl), by repeat (first | (with_reducible first | exact HB.out | apply below_alloc | apply pw_below_drewN | apply below_drew1) | exact HB.out)⟩
            · replace c19 := Bool.eq_false_iff.mpr c19
              subst c19
              have H1 : (examboardlaw12_CipherStream.l0 kj9 l2 l3 t208 t212 0) = some r := by rw [if_neg (show ¬ (false = true) by decide)] at H; exact H
              clear H
              have H := H1
              clear H1
              have H' := Aside0.mk H
              clear H
              go_wp2
              repeat (go_quiet (fail); try go_wp2)
              go_loopg [13] kj9 (fun kq v13 w' => ∃ (x13_3 : Int), v13 = .int .i64 x13_3 ∧ Aside0 (examboardlaw12_CipherStream.l0 kq l2 l3 t208 t212 x13_3 = some r) ∧ Aside0 (kq ≤ kj9) ∧ Aside0 (Kd.R (Kd.int .u8) 5 w' w.heap.size (fun k_ => some k_ ≠ (v214 : Value).ownBlock) v210 t208) ∧ Aside0 (Kd.R (Kd.int .u8) 5 w' w.heap.size (fun k_ => some k_ ≠ (v210 : Value).ownBlock) v214 t212) ∧ Aside0 (Below w.heap.size w w'))
              case atStart => exact ⟨(0), (by first | rfl | (simp; done) | (simp [*]; done)), H', ⟨Nat.le_refl _⟩, ⟨by (with_reducible repeat (first | apply Kd.R_alloc | apply Kd.R_drewN | apply Kd.R_drew)); exact HO_9.out⟩, ⟨by (with_reducible repeat (first | apply Kd.R_alloc | apply Kd.R_drewN | apply Kd.R_drew)); exact HO_11.out⟩, ⟨by repeat (first | (with_reducible first | exact HB.out | apply below_alloc | apply pw_below_drewN | apply below_drew1) | exact HB.out)⟩⟩
              case round =>
                clear H'
                try clear c1
                try clear c2
                try clear p2
                try clear c3
                try clear c5
                try clear c6
                try clear c6b0
                try clear c6b1
                try clear p6
                try clear c7
                try clear c13
                try clear c13b0
                try clear c13b1
                try clear c14
                try clear c14b0
                try clear c14b1
                try clear c15
                try clear c15b0
                try clear c15b1
                try clear c19
                try clear p2
                try clear p6
                obtain ⟨x13_3, rfl, HA, HK3, HO_9, HO_11, HB⟩ := hrel
                cases gk with
                | zero => exact absurd HA.out (by simp [examboardlaw12_CipherStream.l0])
                | succ k3 =>
                  have H := HA.out
                  clear HA
                  simp only [examboardlaw12_CipherStream.l0] at H
                  have HC20 := Aside0.mk H
                  clear H
                  go_upto_region 8 with (fail)
                  repeat (go_quiet (fail); go_upto_region 8 with (fail))
                  go_cut [67] (fun v67 wc => ∃ (kq : Nat) (x67_19 : Bool), v67 = .bool x67_19 ∧ Aside0 (examboardlaw12_CipherStream.j3 kq l2 l3 t208 t212 x13_3 x67_19 = some r) ∧ Aside0 (kq ≤ k3) ∧ Aside0 (Kd.R (Kd.int .u8) 5 wc w.heap.size (fun k_ => some k_ ≠ (v214 : Value).ownBlock) v210 t208) ∧ Aside0 (Kd.R (Kd.int .u8) 5 wc w.heap.size (fun k_ => some k_ ≠ (v210 : Value).ownBlock) v214 t212) ∧ Aside0 (Below w.heap.size w wc))
                  case first =>
                    have H := HC20.out
                    clear HC20
                    by_cases c21 : x13_3 < (l2.length : Int)
                    · rw [if_pos c21] at H
                      have c21b0 : decide (x13_3 < (l2.length : Int)) = true := decide_eq_true c21
                      clear c21
                      (first | rw [c21b0] | (simp only [i64_w, i32_w]; rw [c21b0]) | skip)
                      have H' := Aside0.mk H
                      clear H
                      go_wp2
                      repeat (go_quiet (fail); try go_wp2)
                      go_meet
                      case rel => exact ⟨_, (decide (x13_3 < (l3.length : Int))), (by first | rfl | (simp; done) | (simp [*]; done)), H', ⟨by have := HJ4.out; have := HJ9.out; have := HK3.out; first | omega | exact Nat.le_refl _⟩, ⟨by (with_reducible repeat (first | apply Kd.R_alloc | apply Kd.R_drewN | apply Kd.R_drew)); exact HO_9.out⟩, ⟨by (with_reducible repeat (first | apply Kd.R_alloc | apply Kd.R_drewN | apply Kd.R_drew)); exact HO_11.out⟩, ⟨by repeat (first | (with_reducible first | exact HB.out | apply below_alloc | apply pw_below_drewN | apply below_drew1) | exact HB.out)⟩⟩
                    · rw [if_neg c21] at H
                      have c21b0 : decide (x13_3 < (l2.length : Int)) = false := decide_eq_false c21
                      clear c21
                      (first | rw [c21b0] | (simp only [i64_w, i32_w]; rw [c21b0]) | skip)
                      have H' := Aside0.mk H
                      clear H
                      go_wp2
                      repeat (go_quiet (fail); try go_wp2)
                      go_meet
                      case rel => exact ⟨_, (false), (by first | rfl | (simp; done) | (simp [*]; done)), H', ⟨by have := HJ4.out; have := HJ9.out; have := HK3.out; first | omega | exact Nat.le_refl _⟩, ⟨by (with_reducible repeat (first | apply Kd.R_alloc | apply Kd.R_drewN | apply Kd.R_drew)); exact HO_9.out⟩, ⟨by (with_reducible repeat (first | apply Kd.R_alloc | apply Kd.R_drewN | apply Kd.R_drew)); exact HO_11.out⟩, ⟨by repeat (first | (with_reducible first | exact HB.out | apply below_alloc | apply pw_below_drewN | apply below_drew1) | exact HB.out)⟩⟩
                  case rest =>
                    clear HC20
                    try clear c1
                    try clear c2
                    try clear p2
                    try clear c3
                    try clear c5
                    try clear c6
                    try clear c6b0
                    try clear c6b1
                    try clear p6
                    try clear c7
                    try clear c13
                    try clear c13b0
                    try clear c13b1
                    try clear c14
                    try clear c14b0
                    try clear c14b1
                    try clear c15
                    try clear c15b0
                    try clear c15b1
                    try clear c19
                    try clear c21
                    try clear c21b0
                    try clear p2
                    try clear p6
                    obtain ⟨kq, x67_19, rfl, HA, HJ19, HO_9, HO_11, HB⟩ := hcut
                    cases kq with
                    | zero => exact absurd HA.out (by simp [examboardlaw12_CipherStream.j3])
                    | succ kj19 =>
                      have H := HA.out
                      clear HA
                      simp only [examboardlaw12_CipherStream.j3] at H
                      by_cases c22 : x67_19 = true
                      · subst c22
                        have H1 : (if 0 ≤ (wrap64 (8 + x13_3)) then (if (wrap64 (8 + x13_3)) < (t208.length : Int) then (if (wrap64 (8 + x13_3)) < (t212.length : Int) then (if 0 ≤ x13_3 then (if x13_3 < (l2.length : Int) then (if x13_3 < (l3.length : Int) then (if (Go.bits .xor .u8 (rd t208 (wrap64 (8 + x13_3))) (rd t212 (wrap64 (8 + x13_3)))) = (Go.bits .xor .u8 (rd l2 x13_3) (rd l3 x13_3)) then (examboardlaw12_CipherStream.l0 kj19 l2 l3 t208 t212 (wrap64 (x13_3 + 1))) else (some false)) else (none)) else (none)) else (none)) else (none)) else (none)) else (none)) = some r := by rw [if_pos rfl] at H; exact H
                        clear H
                        have H := H1
                        clear H1
                        obtain ⟨ji23, hji23⟩ : ∃ j_ : Int, (wrap64 (8 + x13_3)) = j_ := ⟨_, rfl⟩
                        replace H : (if 0 ≤ (ji23) then (if (ji23) < (t208.length : Int) then (if (ji23) < (t212.length : Int) then (if 0 ≤ x13_3 then (if x13_3 < (l2.length : Int) then (if x13_3 < (l3.length : Int) then (if (Go.bits .xor .u8 (rd t208 (ji23)) (rd t212 (ji23))) = (Go.bits .xor .u8 (rd l2 x13_3) (rd l3 x13_3)) then (examboardlaw12_CipherStream.l0 kj19 l2 l3 t208 t212 (wrap64 (x13_3 + 1))) else (some false)) else (none)) else (none)) else (none)) else (none)) else (none)) else (none)) = some r := by first | (rw [hji23] at H; exact H) | (simp only [hji23] at H ⊢; exact H)
                        have hji23w : (IntKind.i64.wrap (8 + x13_3)) = ji23 := (i64_w _).trans hji23
                        by_cases c24 : 0 ≤ (ji23)
                        · rw [if_pos c24] at H
                          have c24b0 : decide (0 ≤ (ji23)) = true := decide_eq_true c24
                          clear c24
                          by_cases c25 : (ji23) < (t208.length : Int)
                          · rw [if_pos c25] at H
                            have c25b0 : decide ((ji23) < (t208.length : Int)) = true := decide_eq_true c25
                            clear c25
                            by_cases c26 : (ji23) < (t212.length : Int)
                            · rw [if_pos c26] at H
                              have c26b0 : decide ((ji23) < (t212.length : Int)) = true := decide_eq_true c26
                              clear c26
                              by_cases c27 : 0 ≤ x13_3
                              · rw [if_pos c27] at H
                                have c27b0 : decide (0 ≤ x13_3) = true := decide_eq_true c27
                                clear c27
                                by_cases c28 : x13_3 < (l2.length : Int)
                                · rw [if_pos c28] at H
                                  have c28b0 : decide (x13_3 < (l2.length : Int)) = true := decide_eq_true c28
                                  clear c28
                                  by_cases c29 : x13_3 < (l3.length : Int)
                                  · rw [if_pos c29] at H
                                    have c29b0 : decide (x13_3 < (l3.length : Int)) = true := decide_eq_true c29
                                    clear c29
                                    by_cases c30 : (Go.bits .xor .u8 (rd t208 (ji23)) (rd t212 (ji23))) = (Go.bits .xor .u8 (rd l2 x13_3) (rd l3 x13_3))
                                    · rw [if_pos c30] at H
                                      have c30b0 : ((Go.bits .xor .u8 (rd t208 (ji23)) (rd t212 (ji23))) == (Go.bits .xor .u8 (rd l2 x13_3) (rd l3 x13_3))) = true := beq_iff_eq.mpr c30
                                      have c30b1 : ((Go.bits .xor .u8 (rd t208 (ji23)) (rd t212 (ji23))) != (Go.bits .xor .u8 (rd l2 x13_3) (rd l3 x13_3))) = false := bne_eq_false_iff_eq.mpr c30
                                      clear c30
                                      have H' := Aside0.mk H
                                      clear H
                                      obtain ⟨Ao31, co31, eo31⟩ := Kd.R_slice HO_9.out
                                      subst eo31
                                      have p216 : 0 ≤ ((ji23) : Int) := of_decide_eq_true (by first | (with_reducible assumption) | assumption)
                                      have q216 : (ji23) < (t208.length : Int) := of_decide_eq_true (by first | (with_reducible assumption) | assumption)
                                      obtain ⟨ad216, e216, hx216_0⟩ := Kd.at_int (Kd.R_reads' HO_9.out).2.2 (ji23) p216 q216
                                      cases e216
                                      replace p216 := eq_true p216
                                      replace q216 := eq_true q216
                                      obtain ⟨Ao32, co32, eo32⟩ := Kd.R_slice HO_11.out
                                      subst eo32
                                      have p217 : 0 ≤ ((ji23) : Int) := of_decide_eq_true (by first | (with_reducible assumption) | assumption)
                                      have q217 : (ji23) < (t212.length : Int) := of_decide_eq_true (by first | (with_reducible assumption) | assumption)
                                      obtain ⟨ad217, e217, hx217_0⟩ := Kd.at_int (Kd.R_reads' HO_11.out).2.2 (ji23) p217 q217
                                      cases e217
                                      replace p217 := eq_true p217
                                      replace q217 := eq_true q217
                                      have p218 : 0 ≤ (x13_3 : Int) := of_decide_eq_true (by first | (with_reducible assumption) | assumption)
                                      have q218 : x13_3 < (l2.length : Int) := of_decide_eq_true (by first | (with_reducible assumption) | assumption)
                                      obtain ⟨ad218, e218, hx218_0⟩ := Kd.at_int HR2.out x13_3 p218 q218
                                      cases e218
                                      replace hx218_0 := (HB.out.cell (World.block_lt_of_cell? w _ hx218_0)).trans hx218_0
                                      replace p218 := eq_true p218
                                      replace q218 := eq_true q218
                                      have p219 : 0 ≤ (x13_3 : Int) := of_decide_eq_true (by first | (with_reducible assumption) | assumption)
                                      have q219 : x13_3 < (l3.length : Int) := of_decide_eq_true (by first | (with_reducible assumption) | assumption)
                                      obtain ⟨ad219, e219, hx219_0⟩ := Kd.at_int HR3.out x13_3 p219 q219
                                      cases e219
                                      replace hx219_0 := (HB.out.cell (World.block_lt_of_cell? w _ hx219_0)).trans hx219_0
                                      replace p219 := eq_true p219
                                      replace q219 := eq_true q219
                                      go_wp2
                                      repeat (go_quiet (fail); try go_wp2)
                                      go_roundg kj19
                                      case measure => have := HJ4.out; have := HJ9.out; have := HK3.out; have := HJ19.out; omega
                                      case rel => exact ⟨(wrap64 (x13_3 + 1)), (by first | rfl | (simp; done) | (simp [*]; done)), H', ⟨by have := HJ4.out; have := HJ9.out; have := HK3.out; have := HJ19.out; omega⟩, ⟨by (with_reducible repeat (first | apply Kd.R_alloc | apply Kd.R_drewN | apply Kd.R_drew)); exact HO_9.out⟩, ⟨by (with_reducible repeat (first | apply Kd.R_alloc | apply Kd.R_drewN | apply Kd.R_drew)); exact HO_11.out⟩, ⟨by repeat (first | (with_reducible first | exact HB.out | apply below_alloc | apply pw_below_drewN | apply below_drew1) | exact HB.out)⟩⟩
                                    · rw [if_neg c30] at H
                                      have c30b0 : ((Go.bits .xor .u8 (rd t208 (ji23)) (rd t212 (ji23))) == (Go.bits .xor .u8 (rd l2 x13_3) (rd l3 x13_3))) = false := beq_eq_false_iff_ne.mpr c30
                                      have c30b1 : ((Go.bits .xor .u8 (rd t208 (ji23)) (rd t212 (ji23))) != (Go.bits .xor .u8 (rd l2 x13_3) (rd l3 x13_3))) = true := bne_iff_ne.mpr c30
                                      obtain rfl := Option.some.inj H
                                      obtain ⟨Ao33, co33, eo33⟩ := Kd.R_slice HO_9.out
                                      subst eo33
                                      have p216 : 0 ≤ ((ji23) : Int) := of_decide_eq_true (by first | (with_reducible assumption) | assumption)
                                      have q216 : (ji23) < (t208.length : Int) := of_decide_eq_true (by first | (with_reducible assumption) | assumption)
                                      obtain ⟨ad216, e216, hx216_0⟩ := Kd.at_int (Kd.R_reads' HO_9.out).2.2 (ji23) p216 q216
                                      cases e216
                                      replace p216 := eq_true p216
                                      replace q216 := eq_true q216
                                      obtain ⟨Ao34, co34, eo34⟩ := Kd.R_slice HO_11.out
                                      subst eo34
                                      have p217 : 0 ≤ ((ji23) : Int) := of_decide_eq_true (by first | (with_reducible assumption) | assumption)
                                      have q217 : (ji23) < (t212.length : Int) := of_decide_eq_true (by first | (with_reducible assumption) | assumption)
                                      obtain ⟨ad217, e217, hx217_0⟩ := Kd.at_int (Kd.R_reads' HO_11.out).2.2 (ji23) p217 q217
                                      cases e217
                                      replace p217 := eq_true p217
                                      replace q217 := eq_true q217
                                      have p218 : 0 ≤ (x13_3 : Int) := of_decide_eq_true (by first | (with_reducible assumption) | assumption)
                                      have q218 : x13_3 < (l2.length : Int) := of_decide_eq_true (by first | (with_reducible assumption) | assumption)
                                      obtain ⟨ad218, e218, hx218_0⟩ := Kd.at_int HR2.out x13_3 p218 q218
                                      cases e218
                                      replace hx218_0 := (HB.out.cell (World.block_lt_of_cell? w _ hx218_0)).trans hx218_0
                                      replace p218 := eq_true p218
                                      replace q218 := eq_true q218
                                      have p219 : 0 ≤ (x13_3 : Int) := of_decide_eq_true (by first | (with_reducible assumption) | assumption)
                                      have q219 : x13_3 < (l3.length : Int) := of_decide_eq_true (by first | (with_reducible assumption) | assumption)
                                      obtain ⟨ad219, e219, hx219_0⟩ := Kd.at_int HR3.out x13_3 p219 q219
                                      cases e219
                                      replace hx219_0 := (HB.out.cell (World.block_lt_of_cell? w _ hx219_0)).trans hx219_0
                                      replace p219 := eq_true p219
                                      replace q219 := eq_true q219
                                      go_wp2
                                      repeat (go_quiet (fail); try go_wp2)
                                      go_ret
                                      exact ⟨by first | rfl | (simp [errW_none, errW_some] <;> rfl) | (simp only [← hji23]; first | rfl | (simp [errW_none, errW_some] <;> rfl)) | (simp [*, errW_none, errW_some] <;> rfl), by repeat (first | (with_reducible first | exact HB.out | apply below_alloc | apply pw_below_drewN | apply below_drew1) | exact HB.out)⟩
                                  · rw [if_neg c29] at H
                                    exact absurd H (by simp)
                                · rw [if_neg c28] at H
                                  exact absurd H (by simp)
                              · rw [if_neg c27] at H
                                exact absurd H (by simp)
                            · rw [if_neg c26] at H
                              exact absurd H (by simp)
                          · rw [if_neg c25] at H
                            exact absurd H (by simp)
                        · rw [if_neg c24] at H
                          exact absurd H (by simp)
                      · replace c22 := Bool.eq_false_iff.mpr c22
                        subst c22
                        have H1 : (some true) = some r := by rw [if_neg (show ¬ (false = true) by decide)] at H; exact H
                        clear H
                        have H := H1
                        clear H1
                        obtain rfl := Option.some.inj H
                        go_wp2
                        repeat (go_quiet (fail); try go_wp2)
                        go_ret
                        exact ⟨by first | rfl | (simp [errW_none, errW_some] <;> rfl) | (simp [*, errW_none, errW_some] <;> rfl), by repeat (first | (with_reducible first | exact HB.out | apply below_alloc | apply pw_below_drewN | apply below_drew1) | exact HB.out)⟩

/-- THE ONE PURE STATEMENT of examboardlaw12_CipherStream: yours. -/
def examboardlaw12_CipherStream.Pure : Prop := ∀ (a0 : Int) (a1 : Int) (l2 : List Int) (l3 : List Int), (Lit.int .u64 a0).wf = true → (Lit.int .u64 a1).wf = true → l2.length ≤ maxLen → l2.length * 1 ≤ 140737488351232 → (∀ x ∈ l2, (Lit.int .u8 x).wf = true) → l3.length ≤ maxLen → l3.length * 1 ≤ 140737488351232 → (∀ x ∈ l3, (Lit.int .u8 x).wf = true) → ∃ k, examboardlaw12_CipherStream.f k a0 a1 l2 l3 = some true
theorem examboardlaw12_CipherStream.walk (P : examboardlaw12_CipherStream.Pure) (a0 : Int) (a1 : Int) (a2 : Option Addr) (len2 cap2 : Nat) (z2 : List Int) (a3 : Option Addr) (len3 cap3 : Nat) (z3 : List Int) (w : World) (w0 : (Lit.int .u64 a0).wf = true) (w1 : (Lit.int .u64 a1).wf = true) (w2 : (a2 = none ∧ len2 = 0 ∧ cap2 = 0 ∧ z2 = []) ∨ ∃ x, a2 = some x ∧ len2 ≤ cap2 ∧ cap2 ≤ maxLen ∧ z2.length = cap2 ∧ (∀ i, i < z2.length → w.cell? (x.add i) = some (.int .u8 (z2.getD i 0))) ∧ ∀ n ∈ z2, (Lit.int .u8 n).wf = true) (y2 : len2 * 1 ≤ 140737488351232) (w3 : (a3 = none ∧ len3 = 0 ∧ cap3 = 0 ∧ z3 = []) ∨ ∃ x, a3 = some x ∧ len3 ≤ cap3 ∧ cap3 ≤ maxLen ∧ z3.length = cap3 ∧ (∀ i, i < z3.length → w.cell? (x.add i) = some (.int .u8 (z3.getD i 0))) ∧ ∀ n ∈ z3, (Lit.int .u8 n).wf = true) (y3 : len3 * 1 ≤ 140737488351232) :
    Calls Try.prog 5 #[.int .u64 a0, .int .u64 a1, .slice a2 len2 cap2, .slice a3 len3 cap3] w fun e w' => e = .returned (.bool true) ∧ Below w.heap.size w w' := by
  obtain ⟨l2, rfl, hr2, hm2, hw2, hc2⟩ := ReadsInt.ofRowC w2
  obtain ⟨l3, rfl, hr3, hm3, hw3, hc3⟩ := ReadsInt.ofRowC w3
  obtain ⟨k, h⟩ := P a0 a1 l2 l3 w0 w1 hm2 y2 hw2 hm3 y3 hw3
  refine (examboardlaw12_CipherStream.calls k a0 a1 _ _ l2 _ _ l3 true w (Kd.C_of_reads (d := (0 : Int)) (h1 := fun _ => rfl) hr2) hc2 (Kd.C_of_reads (d := (0 : Int)) (h1 := fun _ => rfl) hr3) hc3 h).mono ?_
  rintro e w' ⟨rfl, hd⟩
  exact ⟨rfl, hd⟩

/-! ### cipher_read: function 29 -/
def cipher_read.l0 : Nat → Int → List Int → Int → Int → Option (Int)
  | 0, _, _, _, _ => none
  | k + 1, x3, x6, x7, x8 => if x8 < x7 then (if 0 ≤ x8 then (if x8 < (x6.length : Int) then (cipher_read.l0 k (Go.bits .or .u64 (IntKind.u64.wrap (x3 * 256)) (IntKind.u64.wrap (rd x6 x8))) x6 x7 (wrap64 (x8 + 1))) else (none)) else (none)) else (some x3)
def cipher_read.f (k : Nat) (l0 : List Int) : Option (Int) := cipher_read.l0 k 0 l0 (l0.length : Int) 0
theorem cipher_read.mono_l : ∀ k, (∀ y0 y1 y2 y3, LeO (cipher_read.l0 k y0 y1 y2 y3) (cipher_read.l0 (k + 1) y0 y1 y2 y3))
  | 0 => fun _ _ _ _ r h => by simp [cipher_read.l0] at h
  | k + 1 => by
    have ih0 := cipher_read.mono_l k
    · intro y0 y1 y2 y3
      unfold cipher_read.l0
      repeat' first
      | (with_reducible exact ih0 _ _ _ _)
      | (with_reducible exact LeO.refl _)
      | (with_reducible exact LeO.none _)
      | (with_reducible refine LeO.ite ?_ ?_)
      | (with_reducible refine LeO.bind ?_ (fun _ => ?_))
      | exact ih0 _ _ _ _
      | exact LeO.none _
      | refine LeO.ite ?_ ?_
      | refine LeO.bind ?_ (fun _ => ?_)
theorem cipher_read.mono : ∀ a0 k, LeO (cipher_read.f k a0) (cipher_read.f (k + 1) a0) := by
  intro a0 k
  have ih0 := cipher_read.mono_l k
  unfold cipher_read.f
  repeat' first
      | (with_reducible exact ih0 _ _ _ _)
      | (with_reducible exact LeO.refl _)
      | (with_reducible exact LeO.none _)
      | (with_reducible refine LeO.ite ?_ ?_)
      | (with_reducible refine LeO.bind ?_ (fun _ => ?_))
      | exact ih0 _ _ _ _
      | exact LeO.none _
      | refine LeO.ite ?_ ?_
      | refine LeO.bind ?_ (fun _ => ?_)
set_option maxHeartbeats 8000000 in
set_option maxRecDepth 100000 in
theorem cipher_read.calls (k : Nat) (A0 : Option Addr) (c0 : Nat) (l0 : List Int) (r : Int) (w : World) (hr0 : Kd.C (Kd.int .u8) w A0 l0.length l0) (hc0 : l0.length ≤ c0) (h : cipher_read.f k l0 = some r) :
    Calls Try.prog 29 #[.slice A0 l0.length c0] w fun e w' => e = .returned (.int .u64 r) ∧ Drawn0 w w' := by
  have HR0 := Aside0.mk hr0
  have HC0 := Aside0.mk hc0
  clear hr0 hc0
  have H : (cipher_read.l0 k 0 l0 (l0.length : Int) 0) = some r := h
  clear h
  have H' := Aside0.mk H
  clear H
  go_enter Try.func29, Try.ntmps29
  go_wp2
  go_loopg [3, 8] k (fun kq v3 v8 w' => ∃ (x3_1 : Int) (x8_1 : Int), v3 = .int .u64 x3_1 ∧ v8 = .int .i64 x8_1 ∧ Aside0 (cipher_read.l0 kq x3_1 l0 (l0.length : Int) x8_1 = some r) ∧ Aside0 (kq ≤ k) ∧ Drawn0 w w')
  case atStart => exact ⟨(0), (0), (by first | rfl | (simp; done) | (simp [*]; done)), (by first | rfl | (simp; done) | (simp [*]; done)), H', ⟨Nat.le_refl _⟩, by repeat (first | exact Drawn0.refl _ | apply Drawn0.step)⟩
  case round =>
    clear H'
    obtain ⟨x3_1, x8_1, rfl, rfl, HA, HK1, ⟨m1, rfl⟩⟩ := hrel
    cases gk with
    | zero => exact absurd HA.out (by simp [cipher_read.l0])
    | succ k1 =>
      have H := HA.out
      clear HA
      simp only [cipher_read.l0] at H
      by_cases c2 : x8_1 < (l0.length : Int)
      · rw [if_pos c2] at H
        have c2b0 : decide (x8_1 < (l0.length : Int)) = true := decide_eq_true c2
        clear c2
        by_cases c3 : 0 ≤ x8_1
        · rw [if_pos c3] at H
          have c3b0 : decide (0 ≤ x8_1) = true := decide_eq_true c3
          clear c3
          by_cases c4 : x8_1 < (l0.length : Int)
          · rw [if_pos c4] at H
            have c4b0 : decide (x8_1 < (l0.length : Int)) = true := decide_eq_true c4
            clear c4
            have H' := Aside0.mk H
            clear H
            have p220 : 0 ≤ (x8_1 : Int) := of_decide_eq_true (by first | (with_reducible assumption) | assumption)
            have q220 : x8_1 < (l0.length : Int) := of_decide_eq_true (by first | (with_reducible assumption) | assumption)
            obtain ⟨ad220, e220, hx220_0⟩ := Kd.at_int HR0.out x8_1 p220 q220
            cases e220
            replace p220 := eq_true p220
            replace q220 := eq_true q220
            go_wp2
            go_roundg k1
            case measure => have := HK1.out; omega
            case rel => exact ⟨(Go.bits .or .u64 (IntKind.u64.wrap (x3_1 * 256)) (IntKind.u64.wrap (rd l0 x8_1))), (wrap64 (x8_1 + 1)), (by first | rfl | (simp; done) | (simp [*]; done)), (by first | rfl | (simp; done) | (simp [*]; done)), H', ⟨by have := HK1.out; omega⟩, by repeat (first | exact Drawn0.refl _ | apply Drawn0.step)⟩
          · rw [if_neg c4] at H
            exact absurd H (by simp)
        · rw [if_neg c3] at H
          exact absurd H (by simp)
      · rw [if_neg c2] at H
        have c2b0 : decide (x8_1 < (l0.length : Int)) = false := decide_eq_false c2
        clear c2
        obtain rfl := Option.some.inj H
        go_wp2
        go_ret
        exact ⟨by first | rfl | (simp; done) | (simp [*]; done), by repeat (first | exact Drawn0.refl _ | apply Drawn0.step)⟩

/-! ### cipher_Open: function 15 -/
def cipher_Open.f (k : Nat) (a0 : Int) (l1 : List Int) : Option (List Int × Int × Int) := if (l1.length : Int) < 16 then (some (([] : List Int), 0, 4)) else (if (l1.length : Int) > 1048592 then (some (([] : List Int), 0, 5)) else (if 0 ≤ (wrap64 ((l1.length : Int) - 8)) then (if (wrap64 ((l1.length : Int) - 8)) ≤ (l1.length : Int) then ((digest_Chain.f k a0 (l1.take ((wrap64 ((l1.length : Int) - 8)) : Int).toNat)).bind fun t222 => ((cipher_read.f k (l1.drop ((wrap64 ((l1.length : Int) - 8)) : Int).toNat)).bind fun t224 => (if t222 = t224 then (if 8 ≤ (l1.length : Int) then (if 8 ≤ (wrap64 ((l1.length : Int) - 8)) then ((cipher_combined.f k a0 (l1.take 8) ((l1.take ((wrap64 ((l1.length : Int) - 8)) : Int).toNat).drop 8)).bind fun t227 => ((cipher_read.f k (l1.take 8)).bind fun t230 => (some (t227, t230, 0)))) else (none)) else (none)) else (some (([] : List Int), 0, 12))))) else (none)) else (none)))
theorem cipher_Open.mono : ∀ a0 a1 k, LeO (cipher_Open.f k a0 a1) (cipher_Open.f (k + 1) a0 a1) := by
  intro a0 a1 k
  unfold cipher_Open.f
  repeat' first
      | (with_reducible exact cipher_combined.mono _ _ _ _)
      | (with_reducible exact cipher_read.mono _ _)
      | (with_reducible exact digest_Chain.mono _ _ _)
      | (with_reducible exact LeO.refl _)
      | (with_reducible exact LeO.none _)
      | (with_reducible refine LeO.ite ?_ ?_)
      | (with_reducible refine LeO.bind ?_ (fun _ => ?_))
      | exact cipher_combined.mono _ _ _ _
      | exact cipher_read.mono _ _
      | exact digest_Chain.mono _ _ _
      | exact LeO.none _
      | refine LeO.ite ?_ ?_
      | refine LeO.bind ?_ (fun _ => ?_)
set_option maxHeartbeats 8000000 in
set_option maxRecDepth 100000 in
theorem cipher_Open.calls (k : Nat) (a0 : Int) (A1 : Option Addr) (c1 : Nat) (l1 : List Int) (r1 : List Int) (r2 : Int) (r3 : Int) (w : World) (hr1 : Kd.C (Kd.int .u8) w A1 l1.length l1) (hc1 : l1.length ≤ c1) (h : cipher_Open.f k a0 l1 = some (r1, r2, r3)) :
    Calls Try.prog 15 #[.int .u64 a0, .slice A1 l1.length c1] w fun e w' => ∃ v0_ : Value, e = .returned (.tuple #[v0_, .int .u64 r2, .int .i64 r3]) ∧ Kd.R (Kd.int .u8) 5 w' w.heap.size (fun _ => True) v0_ r1 ∧ Below w.heap.size w w' := by
  have HR1 := Aside0.mk hr1
  have HC1 := Aside0.mk hc1
  clear hr1 hc1
  have HB := Aside0.mk (Below.refl w.heap.size w)
  have H : (if (l1.length : Int) < 16 then (some (([] : List Int), 0, 4)) else (if (l1.length : Int) > 1048592 then (some (([] : List Int), 0, 5)) else (if 0 ≤ (wrap64 ((l1.length : Int) - 8)) then (if (wrap64 ((l1.length : Int) - 8)) ≤ (l1.length : Int) then ((digest_Chain.f k a0 (l1.take ((wrap64 ((l1.length : Int) - 8)) : Int).toNat)).bind fun t222 => ((cipher_read.f k (l1.drop ((wrap64 ((l1.length : Int) - 8)) : Int).toNat)).bind fun t224 => (if t222 = t224 then (if 8 ≤ (l1.length : Int) then (if 8 ≤ (wrap64 ((l1.length : Int) - 8)) then ((cipher_combined.f k a0 (l1.take 8) ((l1.take ((wrap64 ((l1.length : Int) - 8)) : Int).toNat).drop 8)).bind fun t227 => ((cipher_read.f k (l1.take 8)).bind fun t230 => (some (t227, t230, 0)))) else (none)) else (none)) else (some (([] : List Int), 0, 12))))) else (none)) else (none)))) = some (r1, r2, r3) := h
  clear h
  by_cases c3 : (l1.length : Int) < 16
  · rw [if_pos c3] at H
    have c3b0 : decide ((l1.length : Int) < 16) = true := decide_eq_true c3
    have c3b1 : decide (l1.length < 16) = true := decide_eq_true (by omega)
    clear c3
    simp only [Option.some.injEq, Prod.mk.injEq] at H
    obtain ⟨rfl, rfl, rfl⟩ := H
    go_enter Try.func15, Try.ntmps15
    go_wp2
    repeat (go_quiet (fail); try go_wp2)
    go_ret3
    exact ⟨_, by first | rfl | (simp [errW_none, errW_some] <;> rfl) | (simp [*, errW_none, errW_some] <;> rfl), by first | exact Kd.R_nil _ _ _ _ _ | exact Kd.N_nil _ _ _ _ _ | exact Kd.V_nil _ _ _ _ _ | exact Kd.Q_nil _ _ _ _ _ | exact Kd.S_nil _ _ _ _ _, by repeat (first | (with_reducible first | exact HB.out | apply below_alloc | apply pw_below_drewN | apply below_drew1) | exact HB.out)⟩
  · rw [if_neg c3] at H
    have c3b0 : decide ((l1.length : Int) < 16) = false := decide_eq_false c3
    have c3b1 : decide (l1.length < 16) = false := decide_eq_false (by omega)
    clear c3
    by_cases c4 : (l1.length : Int) > 1048592
    · rw [if_pos c4] at H
      have c4b0 : decide (1048592 < (l1.length : Int)) = true := decide_eq_true c4
      have c4b1 : decide (1048592 < l1.length) = true := decide_eq_true (by omega)
      clear c4
      simp only [Option.some.injEq, Prod.mk.injEq] at H
      obtain ⟨rfl, rfl, rfl⟩ := H
      go_enter Try.func15, Try.ntmps15
      go_wp2
      repeat (go_quiet (fail); try go_wp2)
      go_ret3
      exact ⟨_, by first | rfl | (simp [errW_none, errW_some] <;> rfl) | (simp [*, errW_none, errW_some] <;> rfl), by first | exact Kd.R_nil _ _ _ _ _ | exact Kd.N_nil _ _ _ _ _ | exact Kd.V_nil _ _ _ _ _ | exact Kd.Q_nil _ _ _ _ _ | exact Kd.S_nil _ _ _ _ _, by repeat (first | (with_reducible first | exact HB.out | apply below_alloc | apply pw_below_drewN | apply below_drew1) | exact HB.out)⟩
    · rw [if_neg c4] at H
      have c4b0 : decide (1048592 < (l1.length : Int)) = false := decide_eq_false c4
      have c4b1 : decide (1048592 < l1.length) = false := decide_eq_false (by omega)
      clear c4
      obtain ⟨ji5, hji5⟩ : ∃ j_ : Int, (wrap64 ((l1.length : Int) - 8)) = j_ := ⟨_, rfl⟩
      replace H : (if 0 ≤ (ji5) then (if (ji5) ≤ (l1.length : Int) then ((digest_Chain.f k a0 (l1.take ((ji5) : Int).toNat)).bind fun t222 => ((cipher_read.f k (l1.drop ((ji5) : Int).toNat)).bind fun t224 => (if t222 = t224 then (if 8 ≤ (l1.length : Int) then (if 8 ≤ (ji5) then ((cipher_combined.f k a0 (l1.take 8) ((l1.take ((ji5) : Int).toNat).drop 8)).bind fun t227 => ((cipher_read.f k (l1.take 8)).bind fun t230 => (some (t227, t230, 0)))) else (none)) else (none)) else (some (([] : List Int), 0, 12))))) else (none)) else (none)) = some (r1, r2, r3) := by first | (rw [hji5] at H; exact H) | (simp only [hji5] at H ⊢; exact H)
      have hji5w : (IntKind.i64.wrap ((l1.length : Int) - 8)) = ji5 := (i64_w _).trans hji5
      by_cases c6 : 0 ≤ (ji5)
      · rw [if_pos c6] at H
        have c6b0 := eq_true c6
        have c6b1 : decide (0 ≤ (ji5)) = true := decide_eq_true c6
        clear c6
        by_cases c7 : (ji5) ≤ (l1.length : Int)
        · rw [if_pos c7] at H
          have c7b0 := eq_true c7
          have c7b1 : decide ((ji5) ≤ (l1.length : Int)) = true := decide_eq_true c7
          clear c7
          replace H := Option.bind_eq_some_iff.mp H
          obtain ⟨t222, A80, H⟩ := H
          replace H : ((cipher_read.f k (l1.drop ((ji5) : Int).toNat)).bind fun t224 => (if t222 = t224 then (if 8 ≤ (l1.length : Int) then (if 8 ≤ (ji5) then ((cipher_combined.f k a0 (l1.take 8) ((l1.take ((ji5) : Int).toNat).drop 8)).bind fun t227 => ((cipher_read.f k (l1.take 8)).bind fun t230 => (some (t227, t230, 0)))) else (none)) else (none)) else (some (([] : List Int), 0, 12)))) = some (r1, r2, r3) := H
          have A8 := Aside0.mk A80
          clear A80
          have c9b0 := eq_true (of_decide_eq_true (by first | (with_reducible assumption) | assumption) : 0 ≤ (ji5))
          have c10b0 := eq_true (of_decide_eq_true (by first | (with_reducible assumption) | assumption) : (ji5) ≤ (l1.length : Int))
          replace H := Option.bind_eq_some_iff.mp H
          obtain ⟨t224, A110, H⟩ := H
          replace H : (if t222 = t224 then (if 8 ≤ (l1.length : Int) then (if 8 ≤ (ji5) then ((cipher_combined.f k a0 (l1.take 8) ((l1.take ((ji5) : Int).toNat).drop 8)).bind fun t227 => ((cipher_read.f k (l1.take 8)).bind fun t230 => (some (t227, t230, 0)))) else (none)) else (none)) else (some (([] : List Int), 0, 12))) = some (r1, r2, r3) := H
          have A11 := Aside0.mk A110
          clear A110
          by_cases c12 : t222 = t224
          · rw [if_pos c12] at H
            have c12b0 : (t222 == t224) = true := beq_iff_eq.mpr c12
            have c12b1 : (t222 != t224) = false := bne_eq_false_iff_eq.mpr c12
            clear c12
            by_cases c13 : 8 ≤ (l1.length : Int)
            · rw [if_pos c13] at H
              have c13b0 := eq_true c13
              have c13b1 : decide (8 ≤ (l1.length : Int)) = true := decide_eq_true c13
              clear c13
              by_cases c14 : 8 ≤ (ji5)
              · rw [if_pos c14] at H
                have c14b0 := eq_true c14
                have c14b1 : decide (8 ≤ (ji5)) = true := decide_eq_true c14
                clear c14
                have c15b0 := eq_true (of_decide_eq_true (by first | (with_reducible assumption) | assumption) : (ji5) ≤ (l1.length : Int))
                replace H := Option.bind_eq_some_iff.mp H
                obtain ⟨t227, A160, H⟩ := H
                replace H : ((cipher_read.f k (l1.take 8)).bind fun t230 => (some (t227, t230, 0))) = some (r1, r2, r3) := H
                have A16 := Aside0.mk A160
                clear A160
                replace H := Option.bind_eq_some_iff.mp H
                obtain ⟨t230, A170, H⟩ := H
                replace H : (some (t227, t230, 0)) = some (r1, r2, r3) := H
                have A17 := Aside0.mk A170
                clear A170
                simp only [Option.some.injEq, Prod.mk.injEq] at H
                obtain ⟨rfl, rfl, rfl⟩ := H
                obtain ⟨i018, hi018, _, hsz18, _⟩ := info_parts info5
                obtain ⟨hcut18, hA18, hC18⟩ := print_take_of (P := Try.prog) (Value.int .u8) 0 25 5 .i64 Try.underlying25 hi018 hsz18 A1 c1 l1 (ji5) (of_decide_eq_true (by first | (with_reducible assumption) | assumption)) (of_decide_eq_true (by first | (with_reducible assumption) | assumption)) HC1.out
                have HR221 := Aside0.mk (Kd.C_of_reads (h1 := fun _ => rfl) (hA18 _ (Kd.reads_of_C HR1.out)))
                have HC221 := Aside0.mk hC18
                clear hA18 hC18 hi018 hsz18
                obtain ⟨i019, hi019, _, hsz19, _⟩ := info_parts info5
                obtain ⟨A19, hcut19, hA19, hC19⟩ := print_drop_of (P := Try.prog) (Value.int .u8) 0 25 5 .i64 Try.underlying25 hi019 hsz19 A1 c1 l1 (ji5) (of_decide_eq_true (by first | (with_reducible assumption) | assumption)) (of_decide_eq_true (by first | (with_reducible assumption) | assumption)) HC1.out
                have HR223 := Aside0.mk (Kd.C_of_reads (h1 := fun _ => rfl) (hA19 _ (Kd.reads_of_C HR1.out)))
                have HC223 := Aside0.mk hC19
                clear hA19 hC19 hi019 hsz19
                obtain ⟨i020, hi020, _, hsz20, _⟩ := info_parts info5
                obtain ⟨hcut20, hA20, hC20⟩ := print_take_of (P := Try.prog) (Value.int .u8) 0 25 5 .i64 Try.underlying25 hi020 hsz20 A1 c1 l1 8 (by omega) (of_decide_eq_true (by first | (with_reducible assumption) | assumption)) HC1.out
                have HR225 := Aside0.mk (Kd.C_of_reads (h1 := fun _ => rfl) (hA20 _ (Kd.reads_of_C HR1.out)))
                have HC225 := Aside0.mk hC20
                clear hA20 hC20 hi020 hsz20
                obtain ⟨i021, hi021, _, hsz21, _⟩ := info_parts info5
                obtain ⟨A21, hcut21, hA21, hC21⟩ := print_mid_of (P := Try.prog) (Value.int .u8) 0 25 5 .i64 .i64 Try.underlying25 hi021 hsz21 A1 c1 l1 8 (ji5) (by omega) (by first | omega | exact of_decide_eq_true (by first | (with_reducible assumption) | assumption)) (of_decide_eq_true (by first | (with_reducible assumption) | assumption)) HC1.out
                have HR226 := Aside0.mk (Kd.C_of_reads (h1 := fun _ => rfl) (hA21 _ (Kd.reads_of_C HR1.out)))
                have HC226 := Aside0.mk hC21
                clear hA21 hC21 hi021 hsz21
                go_enter Try.func15, Try.ntmps15
                go_wp2_with (first | (go_at_call 25; refine calls_of_args (args' := #[.int .u64 a0, .slice A1 (l1.take ((ji5) : Int).toNat).length c1]) ?hargs ?_; (case hargs => (have h1_ : (ji5 : Int) ≤ (l1.length : Int) := of_decide_eq_true (by assumption)); (have h2_ : ¬ (l1.length < 16) := of_decide_eq_false (by assumption)); first | (rw [show (l1.take ((ji5) : Int).toNat).length = ((ji5) : Int).toNat from by rw [List.length_take]; omega]; done) | (rw [show (l1.take ((ji5) : Int).toNat).length = ((ji5) : Int).toNat from by rw [List.length_take]; omega]; rfl)); (with_reducible refine (digest_Chain.calls k a0 _ _ (l1.take ((ji5) : Int).toNat) t222 _ ?side1 ?side2 A8.out).mono ?_); (case side1 => repeat (first | exact HR221.out | (with_reducible refine Kd.C_alloc ?_ _) | (with_reducible refine Kd.C_drewN ?_ _) | (with_reducible refine Kd.C_drew ?_))); (case side2 => exact HC221.out); rintro e w' ⟨rfl, ⟨nd, rfl⟩⟩; (try first | exact ⟨rfl, _, World.drewN_drewN _ _ _⟩ | exact ⟨rfl, _, Eq.trans (World.drewN_drewN _ _ _) (congrArg (World.drewN _) (Nat.add_assoc _ _ _))⟩)) | (go_at_call 29; refine calls_of_args (args' := #[.slice A19 (l1.drop ((ji5) : Int).toNat).length (c1 - ((ji5) : Int).toNat)]) ?hargs ?_; (case hargs => (have h1_ : (ji5 : Int) ≤ (l1.length : Int) := of_decide_eq_true (by assumption)); (have h2_ : ¬ (l1.length < 16) := of_decide_eq_false (by assumption)); first | (rw [show (l1.drop ((ji5) : Int).toNat).length = l1.length - ((ji5) : Int).toNat from List.length_drop]; done) | (rw [show (l1.drop ((ji5) : Int).toNat).length = l1.length - ((ji5) : Int).toNat from List.length_drop]; rfl)); (with_reducible refine (cipher_read.calls k _ _ (l1.drop ((ji5) : Int).toNat) t224 _ ?side1 ?side2 A11.out).mono ?_); (case side1 => repeat (first | exact HR223.out | (with_reducible refine Kd.C_alloc ?_ _) | (with_reducible refine Kd.C_drewN ?_ _) | (with_reducible refine Kd.C_drew ?_))); (case side2 => exact HC223.out); rintro e w' ⟨rfl, ⟨nd, rfl⟩⟩; (try first | exact ⟨rfl, _, World.drewN_drewN _ _ _⟩ | exact ⟨rfl, _, Eq.trans (World.drewN_drewN _ _ _) (congrArg (World.drewN _) (Nat.add_assoc _ _ _))⟩)) | (go_at_call 24; refine calls_of_args (args' := #[.int .u64 a0, .slice A1 (l1.take 8).length c1, .slice A21 ((l1.take ((ji5) : Int).toNat).drop 8).length (c1 - 8)]) ?hargs ?_; (case hargs => (have h1_ : (ji5 : Int) ≤ (l1.length : Int) := of_decide_eq_true (by assumption)); (have h2_ : ¬ (l1.length < 16) := of_decide_eq_false (by assumption)); first | (rw [show (l1.take 8).length = min 8 l1.length from List.length_take, show ((l1.take ((ji5) : Int).toNat).drop 8).length = ((ji5) : Int).toNat - 8 from by rw [List.length_drop, List.length_take]; omega]; done) | (rw [show (l1.take 8).length = min 8 l1.length from List.length_take, show ((l1.take ((ji5) : Int).toNat).drop 8).length = ((ji5) : Int).toNat - 8 from by rw [List.length_drop, List.length_take]; omega]; rfl)); (with_reducible refine (cipher_combined.calls k a0 _ _ (l1.take 8) _ _ ((l1.take ((ji5) : Int).toNat).drop 8) t227 _ ?side1 ?side2 ?side3 ?side4 A16.out).mono ?_); (case side1 => repeat (first | exact HR225.out | (with_reducible refine Kd.C_alloc ?_ _) | (with_reducible refine Kd.C_drewN ?_ _) | (with_reducible refine Kd.C_drew ?_))); (case side2 => exact HC225.out); (case side3 => repeat (first | exact HR226.out | (with_reducible refine Kd.C_alloc ?_ _) | (with_reducible refine Kd.C_drewN ?_ _) | (with_reducible refine Kd.C_drew ?_))); (case side4 => exact HC226.out); rintro e w22 ⟨v228, rfl, ho0, hb⟩; have n0_ := Aside0.mk (Kd.R_lower ho0 (below_size (by repeat (first | (with_reducible first | exact HB.out | apply below_alloc | apply pw_below_drewN | apply below_drew1) | exact HB.out)))); have n1_ := Aside0.mk (below_step (by repeat (first | (with_reducible first | exact HB.out | apply below_alloc | apply pw_below_drewN | apply below_drew1) | exact HB.out)) hb); clear HB; have HO229 := n0_; have HB := n1_; clear n0_ n1_; (try clear hb); (try clear hb2); (try clear hk); (try clear hi); (try clear ho0)) | (go_at_call 29; refine calls_of_args (args' := #[.slice A1 (l1.take 8).length c1]) ?hargs ?_; (case hargs => (have h1_ : (ji5 : Int) ≤ (l1.length : Int) := of_decide_eq_true (by assumption)); (have h2_ : ¬ (l1.length < 16) := of_decide_eq_false (by assumption)); first | (rw [show (l1.take 8).length = min 8 l1.length from List.length_take]; done) | (rw [show (l1.take 8).length = min 8 l1.length from List.length_take]; rfl)); (with_reducible refine (cipher_read.calls k _ _ (l1.take 8) t230 _ ?side1 ?side2 A17.out).mono ?_); (case side1 => repeat (first | exact (Kd.C_below HR225.out HB.out) | (with_reducible refine Kd.C_alloc ?_ _) | (with_reducible refine Kd.C_drewN ?_ _) | (with_reducible refine Kd.C_drew ?_))); (case side2 => exact HC225.out); rintro e w' ⟨rfl, ⟨nd, rfl⟩⟩; (try first | exact ⟨rfl, _, World.drewN_drewN _ _ _⟩ | exact ⟨rfl, _, Eq.trans (World.drewN_drewN _ _ _) (congrArg (World.drewN _) (Nat.add_assoc _ _ _))⟩)))
                repeat (go_quiet (first | (go_at_call 25; refine calls_of_args (args' := #[.int .u64 a0, .slice A1 (l1.take ((ji5) : Int).toNat).length c1]) ?hargs ?_; (case hargs => (have h1_ : (ji5 : Int) ≤ (l1.length : Int) := of_decide_eq_true (by assumption)); (have h2_ : ¬ (l1.length < 16) := of_decide_eq_false (by assumption)); first | (rw [show (l1.take ((ji5) : Int).toNat).length = ((ji5) : Int).toNat from by rw [List.length_take]; omega]; done) | (rw [show (l1.take ((ji5) : Int).toNat).length = ((ji5) : Int).toNat from by rw [List.length_take]; omega]; rfl)); (with_reducible refine (digest_Chain.calls k a0 _ _ (l1.take ((ji5) : Int).toNat) t222 _ ?side1 ?side2 A8.out).mono ?_); (case side1 => repeat (first | exact HR221.out | (with_reducible refine Kd.C_alloc ?_ _) | (with_reducible refine Kd.C_drewN ?_ _) | (with_reducible refine Kd.C_drew ?_))); (case side2 => exact HC221.out); rintro e w' ⟨rfl, ⟨nd, rfl⟩⟩; (try first | exact ⟨rfl, _, World.drewN_drewN _ _ _⟩ | exact ⟨rfl, _, Eq.trans (World.drewN_drewN _ _ _) (congrArg (World.drewN _) (Nat.add_assoc _ _ _))⟩)) | (go_at_call 29; refine calls_of_args (args' := #[.slice A19 (l1.drop ((ji5) : Int).toNat).length (c1 - ((ji5) : Int).toNat)]) ?hargs ?_; (case hargs => (have h1_ : (ji5 : Int) ≤ (l1.length : Int) := of_decide_eq_true (by assumption)); (have h2_ : ¬ (l1.length < 16) := of_decide_eq_false (by assumption)); first | (rw [show (l1.drop ((ji5) : Int).toNat).length = l1.length - ((ji5) : Int).toNat from List.length_drop]; done) | (rw [show (l1.drop ((ji5) : Int).toNat).length = l1.length - ((ji5) : Int).toNat from List.length_drop]; rfl)); (with_reducible refine (cipher_read.calls k _ _ (l1.drop ((ji5) : Int).toNat) t224 _ ?side1 ?side2 A11.out).mono ?_); (case side1 => repeat (first | exact HR223.out | (with_reducible refine Kd.C_alloc ?_ _) | (with_reducible refine Kd.C_drewN ?_ _) | (with_reducible refine Kd.C_drew ?_))); (case side2 => exact HC223.out); rintro e w' ⟨rfl, ⟨nd, rfl⟩⟩; (try first | exact ⟨rfl, _, World.drewN_drewN _ _ _⟩ | exact ⟨rfl, _, Eq.trans (World.drewN_drewN _ _ _) (congrArg (World.drewN _) (Nat.add_assoc _ _ _))⟩)) | (go_at_call 24; refine calls_of_args (args' := #[.int .u64 a0, .slice A1 (l1.take 8).length c1, .slice A21 ((l1.take ((ji5) : Int).toNat).drop 8).length (c1 - 8)]) ?hargs ?_; (case hargs => (have h1_ : (ji5 : Int) ≤ (l1.length : Int) := of_decide_eq_true (by assumption)); (have h2_ : ¬ (l1.length < 16) := of_decide_eq_false (by assumption)); first | (rw [show (l1.take 8).length = min 8 l1.length from List.length_take, show ((l1.take ((ji5) : Int).toNat).drop 8).length = ((ji5) : Int).toNat - 8 from by rw [List.length_drop, List.length_take]; omega]; done) | (rw [show (l1.take 8).length = min 8 l1.length from List.length_take, show ((l1.take ((ji5) : Int).toNat).drop 8).length = ((ji5) : Int).toNat - 8 from by rw [List.length_drop, List.length_take]; omega]; rfl)); (with_reducible refine (cipher_combined.calls k a0 _ _ (l1.take 8) _ _ ((l1.take ((ji5) : Int).toNat).drop 8) t227 _ ?side1 ?side2 ?side3 ?side4 A16.out).mono ?_); (case side1 => repeat (first | exact HR225.out | (with_reducible refine Kd.C_alloc ?_ _) | (with_reducible refine Kd.C_drewN ?_ _) | (with_reducible refine Kd.C_drew ?_))); (case side2 => exact HC225.out); (case side3 => repeat (first | exact HR226.out | (with_reducible refine Kd.C_alloc ?_ _) | (with_reducible refine Kd.C_drewN ?_ _) | (with_reducible refine Kd.C_drew ?_))); (case side4 => exact HC226.out); rintro e w22 ⟨v228, rfl, ho0, hb⟩; have n0_ := Aside0.mk (Kd.R_lower ho0 (below_size (by repeat (first | (with_reducible first | exact HB.out | apply below_alloc | apply pw_below_drewN | apply below_drew1) | exact HB.out)))); have n1_ := Aside0.mk (below_step (by repeat (first | (with_reducible first | exact HB.out | apply below_alloc | apply pw_below_drewN | apply below_drew1) | exact HB.out)) hb); clear HB; have HO229 := n0_; have HB := n1_; clear n0_ n1_; (try clear hb); (try clear hb2); (try clear hk); (try clear hi); (try clear ho0)) | (go_at_call 29; refine calls_of_args (args' := #[.slice A1 (l1.take 8).length c1]) ?hargs ?_; (case hargs => (have h1_ : (ji5 : Int) ≤ (l1.length : Int) := of_decide_eq_true (by assumption)); (have h2_ : ¬ (l1.length < 16) := of_decide_eq_false (by assumption)); first | (rw [show (l1.take 8).length = min 8 l1.length from List.length_take]; done) | (rw [show (l1.take 8).length = min 8 l1.length from List.length_take]; rfl)); (with_reducible refine (cipher_read.calls k _ _ (l1.take 8) t230 _ ?side1 ?side2 A17.out).mono ?_); (case side1 => repeat (first | exact (Kd.C_below HR225.out HB.out) | (with_reducible refine Kd.C_alloc ?_ _) | (with_reducible refine Kd.C_drewN ?_ _) | (with_reducible refine Kd.C_drew ?_))); (case side2 => exact HC225.out); rintro e w' ⟨rfl, ⟨nd, rfl⟩⟩; (try first | exact ⟨rfl, _, World.drewN_drewN _ _ _⟩ | exact ⟨rfl, _, Eq.trans (World.drewN_drewN _ _ _) (congrArg (World.drewN _) (Nat.add_assoc _ _ _))⟩))); try go_wp2_with (first | (go_at_call 25; refine calls_of_args (args' := #[.int .u64 a0, .slice A1 (l1.take ((ji5) : Int).toNat).length c1]) ?hargs ?_; (case hargs => (have h1_ : (ji5 : Int) ≤ (l1.length : Int) := of_decide_eq_true (by assumption)); (have h2_ : ¬ (l1.length < 16) := of_decide_eq_false (by assumption)); first | (rw [show (l1.take ((ji5) : Int).toNat).length = ((ji5) : Int).toNat from by rw [List.length_take]; omega]; done) | (rw [show (l1.take ((ji5) : Int).toNat).length = ((ji5) : Int).toNat from by rw [List.length_take]; omega]; rfl)); (with_reducible refine (digest_Chain.calls k a0 _ _ (l1.take ((ji5) : Int).toNat) t222 _ ?side1 ?side2 A8.out).mono ?_); (case side1 => repeat (first | exact HR221.out | (with_reducible refine Kd.C_alloc ?_ _) | (with_reducible refine Kd.C_drewN ?_ _) | (with_reducible refine Kd.C_drew ?_))); (case side2 => exact HC221.out); rintro e w' ⟨rfl, ⟨nd, rfl⟩⟩; (try first | exact ⟨rfl, _, World.drewN_drewN _ _ _⟩ | exact ⟨rfl, _, Eq.trans (World.drewN_drewN _ _ _) (congrArg (World.drewN _) (Nat.add_assoc _ _ _))⟩)) | (go_at_call 29; refine calls_of_args (args' := #[.slice A19 (l1.drop ((ji5) : Int).toNat).length (c1 - ((ji5) : Int).toNat)]) ?hargs ?_; (case hargs => (have h1_ : (ji5 : Int) ≤ (l1.length : Int) := of_decide_eq_true (by assumption)); (have h2_ : ¬ (l1.length < 16) := of_decide_eq_false (by assumption)); first | (rw [show (l1.drop ((ji5) : Int).toNat).length = l1.length - ((ji5) : Int).toNat from List.length_drop]; done) | (rw [show (l1.drop ((ji5) : Int).toNat).length = l1.length - ((ji5) : Int).toNat from List.length_drop]; rfl)); (with_reducible refine (cipher_read.calls k _ _ (l1.drop ((ji5) : Int).toNat) t224 _ ?side1 ?side2 A11.out).mono ?_); (case side1 => repeat (first | exact HR223.out | (with_reducible refine Kd.C_alloc ?_ _) | (with_reducible refine Kd.C_drewN ?_ _) | (with_reducible refine Kd.C_drew ?_))); (case side2 => exact HC223.out); rintro e w' ⟨rfl, ⟨nd, rfl⟩⟩; (try first | exact ⟨rfl, _, World.drewN_drewN _ _ _⟩ | exact ⟨rfl, _, Eq.trans (World.drewN_drewN _ _ _) (congrArg (World.drewN _) (Nat.add_assoc _ _ _))⟩)) | (go_at_call 24; refine calls_of_args (args' := #[.int .u64 a0, .slice A1 (l1.take 8).length c1, .slice A21 ((l1.take ((ji5) : Int).toNat).drop 8).length (c1 - 8)]) ?hargs ?_; (case hargs => (have h1_ : (ji5 : Int) ≤ (l1.length : Int) := of_decide_eq_true (by assumption)); (have h2_ : ¬ (l1.length < 16) := of_decide_eq_false (by assumption)); first | (rw [show (l1.take 8).length = min 8 l1.length from List.length_take, show ((l1.take ((ji5) : Int).toNat).drop 8).length = ((ji5) : Int).toNat - 8 from by rw [List.length_drop, List.length_take]; omega]; done) | (rw [show (l1.take 8).length = min 8 l1.length from List.length_take, show ((l1.take ((ji5) : Int).toNat).drop 8).length = ((ji5) : Int).toNat - 8 from by rw [List.length_drop, List.length_take]; omega]; rfl)); (with_reducible refine (cipher_combined.calls k a0 _ _ (l1.take 8) _ _ ((l1.take ((ji5) : Int).toNat).drop 8) t227 _ ?side1 ?side2 ?side3 ?side4 A16.out).mono ?_); (case side1 => repeat (first | exact HR225.out | (with_reducible refine Kd.C_alloc ?_ _) | (with_reducible refine Kd.C_drewN ?_ _) | (with_reducible refine Kd.C_drew ?_))); (case side2 => exact HC225.out); (case side3 => repeat (first | exact HR226.out | (with_reducible refine Kd.C_alloc ?_ _) | (with_reducible refine Kd.C_drewN ?_ _) | (with_reducible refine Kd.C_drew ?_))); (case side4 => exact HC226.out); rintro e w22 ⟨v228, rfl, ho0, hb⟩; have n0_ := Aside0.mk (Kd.R_lower ho0 (below_size (by repeat (first | (with_reducible first | exact HB.out | apply below_alloc | apply pw_below_drewN | apply below_drew1) | exact HB.out)))); have n1_ := Aside0.mk (below_step (by repeat (first | (with_reducible first | exact HB.out | apply below_alloc | apply pw_below_drewN | apply below_drew1) | exact HB.out)) hb); clear HB; have HO229 := n0_; have HB := n1_; clear n0_ n1_; (try clear hb); (try clear hb2); (try clear hk); (try clear hi); (try clear ho0)) | (go_at_call 29; refine calls_of_args (args' := #[.slice A1 (l1.take 8).length c1]) ?hargs ?_; (case hargs => (have h1_ : (ji5 : Int) ≤ (l1.length : Int) := of_decide_eq_true (by assumption)); (have h2_ : ¬ (l1.length < 16) := of_decide_eq_false (by assumption)); first | (rw [show (l1.take 8).length = min 8 l1.length from List.length_take]; done) | (rw [show (l1.take 8).length = min 8 l1.length from List.length_take]; rfl)); (with_reducible refine (cipher_read.calls k _ _ (l1.take 8) t230 _ ?side1 ?side2 A17.out).mono ?_); (case side1 => repeat (first | exact (Kd.C_below HR225.out HB.out) | (with_reducible refine Kd.C_alloc ?_ _) | (with_reducible refine Kd.C_drewN ?_ _) | (with_reducible refine Kd.C_drew ?_))); (case side2 => exact HC225.out); rintro e w' ⟨rfl, ⟨nd, rfl⟩⟩; (try first | exact ⟨rfl, _, World.drewN_drewN _ _ _⟩ | exact ⟨rfl, _, Eq.trans (World.drewN_drewN _ _ _) (congrArg (World.drewN _) (Nat.add_assoc _ _ _))⟩))))
                go_ret3
                exact ⟨_, by first | rfl | (simp [errW_none, errW_some] <;> rfl) | (simp only [← hji5]; first | rfl | (simp [errW_none, errW_some] <;> rfl)) | (simp [*, errW_none, errW_some] <;> rfl), by (with_reducible repeat (first | apply Kd.R_alloc | apply Kd.R_drewN | apply Kd.R_drew)); exact HO229.out, by repeat (first | (with_reducible first | exact HB.out | apply below_alloc | apply pw_below_drewN | apply below_drew1) | exact HB.out)⟩
              · rw [if_neg c14] at H
                exact absurd H (by simp)
            · rw [if_neg c13] at H
              exact absurd H (by simp)
          · rw [if_neg c12] at H
            have c12b0 : (t222 == t224) = false := beq_eq_false_iff_ne.mpr c12
            have c12b1 : (t222 != t224) = true := bne_iff_ne.mpr c12
            simp only [Option.some.injEq, Prod.mk.injEq] at H
            obtain ⟨rfl, rfl, rfl⟩ := H
            obtain ⟨i023, hi023, _, hsz23, _⟩ := info_parts info5
            obtain ⟨hcut23, hA23, hC23⟩ := print_take_of (P := Try.prog) (Value.int .u8) 0 25 5 .i64 Try.underlying25 hi023 hsz23 A1 c1 l1 (ji5) (of_decide_eq_true (by first | (with_reducible assumption) | assumption)) (of_decide_eq_true (by first | (with_reducible assumption) | assumption)) HC1.out
            have HR221 := Aside0.mk (Kd.C_of_reads (h1 := fun _ => rfl) (hA23 _ (Kd.reads_of_C HR1.out)))
            have HC221 := Aside0.mk hC23
            clear hA23 hC23 hi023 hsz23
            obtain ⟨i024, hi024, _, hsz24, _⟩ := info_parts info5
            obtain ⟨A24, hcut24, hA24, hC24⟩ := print_drop_of (P := Try.prog) (Value.int .u8) 0 25 5 .i64 Try.underlying25 hi024 hsz24 A1 c1 l1 (ji5) (of_decide_eq_true (by first | (with_reducible assumption) | assumption)) (of_decide_eq_true (by first | (with_reducible assumption) | assumption)) HC1.out
            have HR223 := Aside0.mk (Kd.C_of_reads (h1 := fun _ => rfl) (hA24 _ (Kd.reads_of_C HR1.out)))
            have HC223 := Aside0.mk hC24
            clear hA24 hC24 hi024 hsz24
            go_enter Try.func15, Try.ntmps15
            go_wp2_with (first | (go_at_call 25; refine calls_of_args (args' := #[.int .u64 a0, .slice A1 (l1.take ((ji5) : Int).toNat).length c1]) ?hargs ?_; (case hargs => (have h1_ : (ji5 : Int) ≤ (l1.length : Int) := of_decide_eq_true (by assumption)); (have h2_ : ¬ (l1.length < 16) := of_decide_eq_false (by assumption)); first | (rw [show (l1.take ((ji5) : Int).toNat).length = ((ji5) : Int).toNat from by rw [List.length_take]; omega]; done) | (rw [show (l1.take ((ji5) : Int).toNat).length = ((ji5) : Int).toNat from by rw [List.length_take]; omega]; rfl)); (with_reducible refine (digest_Chain.calls k a0 _ _ (l1.take ((ji5) : Int).toNat) t222 _ ?side1 ?side2 A8.out).mono ?_); (case side1 => repeat (first | exact HR221.out | (with_reducible refine Kd.C_alloc ?_ _) | (with_reducible refine Kd.C_drewN ?_ _) | (with_reducible refine Kd.C_drew ?_))); (case side2 => exact HC221.out); rintro e w' ⟨rfl, ⟨nd, rfl⟩⟩; (try first | exact ⟨rfl, _, World.drewN_drewN _ _ _⟩ | exact ⟨rfl, _, Eq.trans (World.drewN_drewN _ _ _) (congrArg (World.drewN _) (Nat.add_assoc _ _ _))⟩)) | (go_at_call 29; refine calls_of_args (args' := #[.slice A24 (l1.drop ((ji5) : Int).toNat).length (c1 - ((ji5) : Int).toNat)]) ?hargs ?_; (case hargs => (have h1_ : (ji5 : Int) ≤ (l1.length : Int) := of_decide_eq_true (by assumption)); (have h2_ : ¬ (l1.length < 16) := of_decide_eq_false (by assumption)); first | (rw [show (l1.drop ((ji5) : Int).toNat).length = l1.length - ((ji5) : Int).toNat from List.length_drop]; done) | (rw [show (l1.drop ((ji5) : Int).toNat).length = l1.length - ((ji5) : Int).toNat from List.length_drop]; rfl)); (with_reducible refine (cipher_read.calls k _ _ (l1.drop ((ji5) : Int).toNat) t224 _ ?side1 ?side2 A11.out).mono ?_); (case side1 => repeat (first | exact HR223.out | (with_reducible refine Kd.C_alloc ?_ _) | (with_reducible refine Kd.C_drewN ?_ _) | (with_reducible refine Kd.C_drew ?_))); (case side2 => exact HC223.out); rintro e w' ⟨rfl, ⟨nd, rfl⟩⟩; (try first | exact ⟨rfl, _, World.drewN_drewN _ _ _⟩ | exact ⟨rfl, _, Eq.trans (World.drewN_drewN _ _ _) (congrArg (World.drewN _) (Nat.add_assoc _ _ _))⟩)))
            repeat (go_quiet (first | (go_at_call 25; refine calls_of_args (args' := #[.int .u64 a0, .slice A1 (l1.take ((ji5) : Int).toNat).length c1]) ?hargs ?_; (case hargs => (have h1_ : (ji5 : Int) ≤ (l1.length : Int) := of_decide_eq_true (by assumption)); (have h2_ : ¬ (l1.length < 16) := of_decide_eq_false (by assumption)); first | (rw [show (l1.take ((ji5) : Int).toNat).length = ((ji5) : Int).toNat from by rw [List.length_take]; omega]; done) | (rw [show (l1.take ((ji5) : Int).toNat).length = ((ji5) : Int).toNat from by rw [List.length_take]; omega]; rfl)); (with_reducible refine (digest_Chain.calls k a0 _ _ (l1.take ((ji5) : Int).toNat) t222 _ ?side1 ?side2 A8.out).mono ?_); (case side1 => repeat (first | exact HR221.out | (with_reducible refine Kd.C_alloc ?_ _) | (with_reducible refine Kd.C_drewN ?_ _) | (with_reducible refine Kd.C_drew ?_))); (case side2 => exact HC221.out); rintro e w' ⟨rfl, ⟨nd, rfl⟩⟩; (try first | exact ⟨rfl, _, World.drewN_drewN _ _ _⟩ | exact ⟨rfl, _, Eq.trans (World.drewN_drewN _ _ _) (congrArg (World.drewN _) (Nat.add_assoc _ _ _))⟩)) | (go_at_call 29; refine calls_of_args (args' := #[.slice A24 (l1.drop ((ji5) : Int).toNat).length (c1 - ((ji5) : Int).toNat)]) ?hargs ?_; (case hargs => (have h1_ : (ji5 : Int) ≤ (l1.length : Int) := of_decide_eq_true (by assumption)); (have h2_ : ¬ (l1.length < 16) := of_decide_eq_false (by assumption)); first | (rw [show (l1.drop ((ji5) : Int).toNat).length = l1.length - ((ji5) : Int).toNat from List.length_drop]; done) | (rw [show (l1.drop ((ji5) : Int).toNat).length = l1.length - ((ji5) : Int).toNat from List.length_drop]; rfl)); (with_reducible refine (cipher_read.calls k _ _ (l1.drop ((ji5) : Int).toNat) t224 _ ?side1 ?side2 A11.out).mono ?_); (case side1 => repeat (first | exact HR223.out | (with_reducible refine Kd.C_alloc ?_ _) | (with_reducible refine Kd.C_drewN ?_ _) | (with_reducible refine Kd.C_drew ?_))); (case side2 => exact HC223.out); rintro e w' ⟨rfl, ⟨nd, rfl⟩⟩; (try first | exact ⟨rfl, _, World.drewN_drewN _ _ _⟩ | exact ⟨rfl, _, Eq.trans (World.drewN_drewN _ _ _) (congrArg (World.drewN _) (Nat.add_assoc _ _ _))⟩))); try go_wp2_with (first | (go_at_call 25; refine calls_of_args (args' := #[.int .u64 a0, .slice A1 (l1.take ((ji5) : Int).toNat).length c1]) ?hargs ?_; (case hargs => (have h1_ : (ji5 : Int) ≤ (l1.length : Int) := of_decide_eq_true (by assumption)); (have h2_ : ¬ (l1.length < 16) := of_decide_eq_false (by assumption)); first | (rw [show (l1.take ((ji5) : Int).toNat).length = ((ji5) : Int).toNat from by rw [List.length_take]; omega]; done) | (rw [show (l1.take ((ji5) : Int).toNat).length = ((ji5) : Int).toNat from by rw [List.length_take]; omega]; rfl)); (with_reducible refine (digest_Chain.calls k a0 _ _ (l1.take ((ji5) : Int).toNat) t222 _ ?side1 ?side2 A8.out).mono ?_); (case side1 => repeat (first | exact HR221.out | (with_reducible refine Kd.C_alloc ?_ _) | (with_reducible refine Kd.C_drewN ?_ _) | (with_reducible refine Kd.C_drew ?_))); (case side2 => exact HC221.out); rintro e w' ⟨rfl, ⟨nd, rfl⟩⟩; (try first | exact ⟨rfl, _, World.drewN_drewN _ _ _⟩ | exact ⟨rfl, _, Eq.trans (World.drewN_drewN _ _ _) (congrArg (World.drewN _) (Nat.add_assoc _ _ _))⟩)) | (go_at_call 29; refine calls_of_args (args' := #[.slice A24 (l1.drop ((ji5) : Int).toNat).length (c1 - ((ji5) : Int).toNat)]) ?hargs ?_; (case hargs => (have h1_ : (ji5 : Int) ≤ (l1.length : Int) := of_decide_eq_true (by assumption)); (have h2_ : ¬ (l1.length < 16) := of_decide_eq_false (by assumption)); first | (rw [show (l1.drop ((ji5) : Int).toNat).length = l1.length - ((ji5) : Int).toNat from List.length_drop]; done) | (rw [show (l1.drop ((ji5) : Int).toNat).length = l1.length - ((ji5) : Int).toNat from List.length_drop]; rfl)); (with_reducible refine (cipher_read.calls k _ _ (l1.drop ((ji5) : Int).toNat) t224 _ ?side1 ?side2 A11.out).mono ?_); (case side1 => repeat (first | exact HR223.out | (with_reducible refine Kd.C_alloc ?_ _) | (with_reducible refine Kd.C_drewN ?_ _) | (with_reducible refine Kd.C_drew ?_))); (case side2 => exact HC223.out); rintro e w' ⟨rfl, ⟨nd, rfl⟩⟩; (try first | exact ⟨rfl, _, World.drewN_drewN _ _ _⟩ | exact ⟨rfl, _, Eq.trans (World.drewN_drewN _ _ _) (congrArg (World.drewN _) (Nat.add_assoc _ _ _))⟩))))
            go_ret3
            exact ⟨_, by first | rfl | (simp [errW_none, errW_some] <;> rfl) | (simp only [← hji5]; first | rfl | (simp [errW_none, errW_some] <;> rfl)) | (simp [*, errW_none, errW_some] <;> rfl), by first | exact Kd.R_nil _ _ _ _ _ | exact Kd.N_nil _ _ _ _ _ | exact Kd.V_nil _ _ _ _ _ | exact Kd.Q_nil _ _ _ _ _ | exact Kd.S_nil _ _ _ _ _, by repeat (first | (with_reducible first | exact HB.out | apply below_alloc | apply pw_below_drewN | apply below_drew1) | exact HB.out)⟩
        · rw [if_neg c7] at H
          exact absurd H (by simp)
      · rw [if_neg c6] at H
        exact absurd H (by simp)

end Go.Proofs.Ytcohkopbgfnlbaa.Q
