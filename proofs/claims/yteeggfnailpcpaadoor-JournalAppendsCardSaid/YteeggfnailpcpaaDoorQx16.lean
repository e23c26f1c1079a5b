/- Made by wip/myprint.py of this session (it drives the kit's printer): what the calls of the Go functions come to, as plain Lean functions, and the row of a law over them; without conditions. -/
import Derived.Test.YteeggfnailpcpaaDoorQx0
import Derived.Test.YteeggfnailpcpaaDoorQx11
import Derived.Test.YteeggfnailpcpaaDoorQx12
import Derived.Test.YteeggfnailpcpaaDoorQx13
import Derived.Test.YteeggfnailpcpaaDoorQx14
import Derived.Test.YteeggfnailpcpaaDoorQx15
namespace Go.Proofs.YteeggfnailpcpaaDoor.Q
open Go.RowKit Go.Proofs.YteeggfnailpcpaaDoorW.PrintWords Go.Proofs.YteeggfnailpcpaaDoorW.PrintLast Go.Proofs.YteeggfnailpcpaaDoorW.PrintMore
attribute [local go_sem] max2_int min2_int max_two min_two max_three min_three max_four min_four   -- for this text's walks alone
set_option linter.unusedVariables false
set_option linter.unusedSimpArgs false

/-! ### examboardref10_Encode: function 38 -/
def examboardref10_Encode.f (k : Nat) (a0_0 : Int) (a0_1 : Int) (a0_2 : Int) (a0_3 : ByteArray) (l0_4 : List (S43)) : Option (List Int × Int) := (examboardref10_fits.f k a0_0 a0_1 a0_2 a0_3 l0_4 1).bind fun t587 => (if t587 = true then ((examboardref10_write.f k ([] : List Int) a0_0 a0_1 a0_2 a0_3 l0_4).bind fun t588 => (if (t588.length : Int) > 1048576 then (some (([] : List Int), 1)) else (some (t588, 0)))) else (some (([] : List Int), 1)))
theorem examboardref10_Encode.mono : ∀ a0 a1 a2 a3 a4 k, LeO (examboardref10_Encode.f k a0 a1 a2 a3 a4) (examboardref10_Encode.f (k + 1) a0 a1 a2 a3 a4) := by
 intro a0 a1 a2 a3 a4 k
 unfold examboardref10_Encode.f
 repeat' first
   | (with_reducible exact examboardref10_fits.mono _ _ _ _ _ _ _)
   | (with_reducible exact examboardref10_write.mono _ _ _ _ _ _ _)
   | (with_reducible exact LeO.refl _)
   | (with_reducible exact LeO.none _)
   | (with_reducible refine LeO.ite ?_ ?_)
   | (with_reducible refine LeO.bind ?_ (fun _ => ?_))
   | exact examboardref10_fits.mono _ _ _ _ _ _ _
   | exact examboardref10_write.mono _ _ _ _ _ _ _
   | exact LeO.none _
   | refine LeO.ite ?_ ?_
   | refine LeO.bind ?_ (fun _ => ?_)
set_option maxHeartbeats 8000000 in
set_option maxRecDepth 100000 in
theorem examboardref10_Encode.calls (k : Nat) (a0_0 : Int) (a0_1 : Int) (a0_2 : Int) (a0_3 : ByteArray) (A0_4 : Option Addr) (c0_4 : Nat) (l0_4 : List (S43)) (r1 : List Int) (r2 : Int) (w : World) (hr0_4 : Kd.C k43 w A0_4 l0_4.length l0_4) (hc0_4 : l0_4.length ≤ c0_4) (h : examboardref10_Encode.f k a0_0 a0_1 a0_2 a0_3 l0_4 = some (r1, r2)) :
  Calls Tryd.prog 38 #[.agg #[.int .i64 a0_0, .int .i64 a0_1, .int .i64 a0_2, .string a0_3, .slice A0_4 l0_4.length c0_4]] w fun e w' => ∃ v0_ : Value, e = .returned (.tuple #[v0_, .int .i64 r2]) ∧ Kd.R (Kd.int .u8) 5 w' w.heap.size (fun _ => True) v0_ r1 ∧ Below w.heap.size w w' := by
 have hu43 := Tryd.underlying43
 have HR0_4 := am hr0_4
 have HC0_4 := am hc0_4
 clear hr0_4 hc0_4
 have HB := am (Below.refl w.heap.size w)
 have H : ((examboardref10_fits.f k a0_0 a0_1 a0_2 a0_3 l0_4 1).bind fun t587 => (if t587 = true then ((examboardref10_write.f k ([] : List Int) a0_0 a0_1 a0_2 a0_3 l0_4).bind fun t588 => (if (t588.length : Int) > 1048576 then (some (([] : List Int), 1)) else (some (t588, 0)))) else (some (([] : List Int), 1)))) = some (r1, r2) := h
 clear h
 replace H := Option.bind_eq_some_iff.mp H
 obtain ⟨t587, A20, H⟩ := H
 try dsimp only at H
 have A2 := am A20
 clear A20
 by_cases c3 : t587 = true
 ·
  subst c3
  have H1 := H
  rw [if_pos rfl] at H1
  clear H
  have H := H1
  clear H1
  replace H := Option.bind_eq_some_iff.mp H
  obtain ⟨t588, A40, H⟩ := H
  try dsimp only at H
  have A4 := am A40
  clear A40
  by_cases c5 : (t588.length : Int) > 1048576
  ·
   rw [if_pos c5] at H
   have c5b0 : decide (1048576 < (t588.length : Int)) = true := decide_eq_true c5
   have c5b1 : decide (1048576 < t588.length) = true := decide_eq_true (by omega)
   clear c5
   simp only [Option.some.injEq, Prod.mk.injEq] at H
   obtain ⟨rfl, rfl⟩ := H
   go_enter Tryd.func38, Tryd.ntmps38
   go_wp2_with (first | ((with_reducible refine gate_dst (N := 1) rfl ?_); refine box_event rfl (N := 1) rfl (cs := #[.int .i64 a0_0, .int .i64 a0_1, .int .i64 a0_2, .string a0_3, .slice A0_4 l0_4.length c0_4]) (t := 43) gz ?_; intro gb586 hg w6 hbox hb; have BK586 := am (hbox); have GW586 := am ((bs hg (hz HB.out) : w.heap.size ≤ gb586)); have GE586 := am ((bs hg (hz HB.out) : w.heap.size ≤ gb586)); replace HB := am (below_step (hz HB.out) hb); clear hb hbox hg; obtain ⟨hcz7_0, hcz7_1, hcz7_2, hcz7_3, hcz7_4⟩ := cs5 BK586.out; obtain ⟨hfz7_0, hfz7_1, hfz7_2, hfz7_3, hfz7_4⟩ := fs5 BK586.out) | ((with_reducible refine gate_callee (f := 49) rfl ?_); refine goesL_ (some 6) rfl rfl Tryd.func49 (by kernel_rfl) rfl #[.agg #[.int .i64 a0_0, .int .i64 a0_1, .int .i64 a0_2, .string a0_3, .slice A0_4 l0_4.length c0_4], .int .i64 1] rfl lz ?_; (with_reducible refine (examboardref10_fits.calls k a0_0 a0_1 a0_2 a0_3 _ _ l0_4 1 true _ ?side1 ?side2 A2.out).mono ?_); (case side1 => exact cz (Kd.C_below HR0_4.out HB.out)); (case side2 => exact HC0_4.out); rintro e w8 ⟨rfl, hb⟩; refine ⟨_, rfl, ?_⟩; replace BK586 := am (blk_below (bz BK586.out) hb); replace HB := am (below_step (hz1 HB.out GE586.out) hb); obtain ⟨hcz9_0, hcz9_1, hcz9_2, hcz9_3, hcz9_4⟩ := cs5 BK586.out; obtain ⟨hfz9_0, hfz9_1, hfz9_2, hfz9_3, hfz9_4⟩ := fs5 BK586.out) | ((with_reducible refine gate_callee (f := 50) rfl ?_); refine goesL_ (some 9) rfl rfl Tryd.func50 (by kernel_rfl) rfl #[.slice none 0 0, .agg #[.int .i64 a0_0, .int .i64 a0_1, .int .i64 a0_2, .string a0_3, .slice A0_4 l0_4.length c0_4]] rfl lz ?_; (refine (examboardref10_write.calls k (fun k_ => some k_ = (.slice none 0 0 : Value).ownBlock) (.slice none 0 0) ([] : List Int) a0_0 a0_1 a0_2 a0_3 _ _ l0_4 t588 w _ ?side1 ?side2 ?side3 ?side4 A4.out).mono ?_); (case side1 => exact hz1 HB.out GE586.out); (case side2 => exact Kd.R_nil _ _ _ _ _); (case side3 => exact HR0_4.out); (case side4 => exact HC0_4.out); rintro e w10 ⟨v589, rfl, ho0, hb, hkp⟩; refine ⟨_, rfl, ?_⟩; replace BK586 := am (blk_kept (bz BK586.out) hkp (fun hs_ => (fun e_ => by simp [Value.ownBlock] at e_) hs_)); have HO590 := am (Kd.R_mono (ok' := fun k_ => True) ho0 (fun k_ hk_ => trivial)); replace HB := am (hb); (try clear hb); (try clear hkp); (try clear ho0); obtain ⟨Ao11, co11, eo11⟩ := Kd.R_slice HO590.out; subst eo11))
   go_ret2
   exact ⟨_, ew, nlz, hz1 HB.out GE586.out⟩
  ·
   rw [if_neg c5] at H
   have c5b0 : decide (1048576 < (t588.length : Int)) = false := decide_eq_false c5
   have c5b1 : decide (1048576 < t588.length) = false := decide_eq_false (by omega)
   clear c5
   simp only [Option.some.injEq, Prod.mk.injEq] at H
   obtain ⟨rfl, rfl⟩ := H
   go_enter Tryd.func38, Tryd.ntmps38
   go_wp2_with (first | ((with_reducible refine gate_dst (N := 1) rfl ?_); refine box_event rfl (N := 1) rfl (cs := #[.int .i64 a0_0, .int .i64 a0_1, .int .i64 a0_2, .string a0_3, .slice A0_4 l0_4.length c0_4]) (t := 43) gz ?_; intro gb586 hg w12 hbox hb; have BK586 := am (hbox); have GW586 := am ((bs hg (hz HB.out) : w.heap.size ≤ gb586)); have GE586 := am ((bs hg (hz HB.out) : w.heap.size ≤ gb586)); replace HB := am (below_step (hz HB.out) hb); clear hb hbox hg; obtain ⟨hcz13_0, hcz13_1, hcz13_2, hcz13_3, hcz13_4⟩ := cs5 BK586.out; obtain ⟨hfz13_0, hfz13_1, hfz13_2, hfz13_3, hfz13_4⟩ := fs5 BK586.out) | ((with_reducible refine gate_callee (f := 49) rfl ?_); refine goesL_ (some 6) rfl rfl Tryd.func49 (by kernel_rfl) rfl #[.agg #[.int .i64 a0_0, .int .i64 a0_1, .int .i64 a0_2, .string a0_3, .slice A0_4 l0_4.length c0_4], .int .i64 1] rfl lz ?_; (with_reducible refine (examboardref10_fits.calls k a0_0 a0_1 a0_2 a0_3 _ _ l0_4 1 true _ ?side1 ?side2 A2.out).mono ?_); (case side1 => exact cz (Kd.C_below HR0_4.out HB.out)); (case side2 => exact HC0_4.out); rintro e w14 ⟨rfl, hb⟩; refine ⟨_, rfl, ?_⟩; replace BK586 := am (blk_below (bz BK586.out) hb); replace HB := am (below_step (hz1 HB.out GE586.out) hb); obtain ⟨hcz15_0, hcz15_1, hcz15_2, hcz15_3, hcz15_4⟩ := cs5 BK586.out; obtain ⟨hfz15_0, hfz15_1, hfz15_2, hfz15_3, hfz15_4⟩ := fs5 BK586.out) | ((with_reducible refine gate_callee (f := 50) rfl ?_); refine goesL_ (some 9) rfl rfl Tryd.func50 (by kernel_rfl) rfl #[.slice none 0 0, .agg #[.int .i64 a0_0, .int .i64 a0_1, .int .i64 a0_2, .string a0_3, .slice A0_4 l0_4.length c0_4]] rfl lz ?_; (refine (examboardref10_write.calls k (fun k_ => some k_ = (.slice none 0 0 : Value).ownBlock) (.slice none 0 0) ([] : List Int) a0_0 a0_1 a0_2 a0_3 _ _ l0_4 t588 w _ ?side1 ?side2 ?side3 ?side4 A4.out).mono ?_); (case side1 => exact hz1 HB.out GE586.out); (case side2 => exact Kd.R_nil _ _ _ _ _); (case side3 => exact HR0_4.out); (case side4 => exact HC0_4.out); rintro e w16 ⟨v589, rfl, ho0, hb, hkp⟩; refine ⟨_, rfl, ?_⟩; replace BK586 := am (blk_kept (bz BK586.out) hkp (fun hs_ => (fun e_ => by simp [Value.ownBlock] at e_) hs_)); have HO590 := am (Kd.R_mono (ok' := fun k_ => True) ho0 (fun k_ hk_ => trivial)); replace HB := am (hb); (try clear hb); (try clear hkp); (try clear ho0); obtain ⟨Ao17, co17, eo17⟩ := Kd.R_slice HO590.out; subst eo17))
   go_ret2
   exact ⟨_, ew, rz HO590.out, hz1 HB.out GE586.out⟩
 ·
  replace c3 := Bool.eq_false_iff.mpr c3
  subst c3
  have H1 := H
  rw [if_neg (show ¬ (false = true) by decide)] at H1
  clear H
  have H := H1
  clear H1
  simp only [Option.some.injEq, Prod.mk.injEq] at H
  obtain ⟨rfl, rfl⟩ := H
  go_enter Tryd.func38, Tryd.ntmps38
  go_wp2_with (first | ((with_reducible refine gate_dst (N := 1) rfl ?_); refine box_event rfl (N := 1) rfl (cs := #[.int .i64 a0_0, .int .i64 a0_1, .int .i64 a0_2, .string a0_3, .slice A0_4 l0_4.length c0_4]) (t := 43) gz ?_; intro gb586 hg w18 hbox hb; have BK586 := am (hbox); have GW586 := am ((bs hg (hz HB.out) : w.heap.size ≤ gb586)); have GE586 := am ((bs hg (hz HB.out) : w.heap.size ≤ gb586)); replace HB := am (below_step (hz HB.out) hb); clear hb hbox hg; obtain ⟨hcz19_0, hcz19_1, hcz19_2, hcz19_3, hcz19_4⟩ := cs5 BK586.out; obtain ⟨hfz19_0, hfz19_1, hfz19_2, hfz19_3, hfz19_4⟩ := fs5 BK586.out) | ((with_reducible refine gate_callee (f := 49) rfl ?_); refine goesL_ (some 6) rfl rfl Tryd.func49 (by kernel_rfl) rfl #[.agg #[.int .i64 a0_0, .int .i64 a0_1, .int .i64 a0_2, .string a0_3, .slice A0_4 l0_4.length c0_4], .int .i64 1] rfl lz ?_; (with_reducible refine (examboardref10_fits.calls k a0_0 a0_1 a0_2 a0_3 _ _ l0_4 1 false _ ?side1 ?side2 A2.out).mono ?_); (case side1 => exact cz (Kd.C_below HR0_4.out HB.out)); (case side2 => exact HC0_4.out); rintro e w20 ⟨rfl, hb⟩; refine ⟨_, rfl, ?_⟩; replace BK586 := am (blk_below (bz BK586.out) hb); replace HB := am (below_step (hz1 HB.out GE586.out) hb)))
  go_ret2
  exact ⟨_, ew, nlz, hz1 HB.out GE586.out⟩

/-! ### examboardref49_bytes: function 39 -/
def examboardref49_bytes.l0 : Nat → Int → List Int → Int → Option (List Int)
 | 0, _, _, _ => none
 | k + 1, x0, x5, x6 => if x6 ≥ 0 then (if 0 ≤ x6 then (if x6 < (x5.length : Int) then (examboardref49_bytes.l0 k (IntKind.u64.wrap (Int.tdiv x0 256)) (x5.set (x6 : Int).toNat ((Int.tmod x0 256) % 256)) (wrap64 (x6 - 1))) else (none)) else (none)) else (some x5)
def examboardref49_bytes.f (k : Nat) (a0 : Int) (a1 : Int) : Option (List Int) := if 0 ≤ a1 then (if (a1 : Int).toNat ≤ 281474976710656 then (examboardref49_bytes.l0 k a0 (List.replicate (a1 : Int).toNat 0) (wrap64 (a1 - 1))) else (none)) else (none)
theorem examboardref49_bytes.mono_l : ∀ k, (∀ y0 y1 y2, LeO (examboardref49_bytes.l0 k y0 y1 y2) (examboardref49_bytes.l0 (k + 1) y0 y1 y2))
 | 0 => fun _ _ _ r h => by simp [examboardref49_bytes.l0] at h
 | k + 1 => by
  have ih0 := examboardref49_bytes.mono_l k
  ·
   intro y0 y1 y2
   unfold examboardref49_bytes.l0
   repeat' first
   | (with_reducible exact ih0 _ _ _)
   | (with_reducible exact LeO.refl _)
   | (with_reducible exact LeO.none _)
   | (with_reducible refine LeO.ite ?_ ?_)
   | (with_reducible refine LeO.bind ?_ (fun _ => ?_))
   | exact ih0 _ _ _
   | exact LeO.none _
   | refine LeO.ite ?_ ?_
   | refine LeO.bind ?_ (fun _ => ?_)
theorem examboardref49_bytes.mono : ∀ a0 a1 k, LeO (examboardref49_bytes.f k a0 a1) (examboardref49_bytes.f (k + 1) a0 a1) := by
 intro a0 a1 k
 have ih0 := examboardref49_bytes.mono_l k
 unfold examboardref49_bytes.f
 repeat' first
   | (with_reducible exact ih0 _ _ _)
   | (with_reducible exact LeO.refl _)
   | (with_reducible exact LeO.none _)
   | (with_reducible refine LeO.ite ?_ ?_)
   | (with_reducible refine LeO.bind ?_ (fun _ => ?_))
   | exact ih0 _ _ _
   | exact LeO.none _
   | refine LeO.ite ?_ ?_
   | refine LeO.bind ?_ (fun _ => ?_)
set_option maxHeartbeats 8000000 in
set_option maxRecDepth 100000 in
theorem examboardref49_bytes.calls (k : Nat) (a0 : Int) (a1 : Int) (r : List Int) (w : World) (h : examboardref49_bytes.f k a0 a1 = some r) :
  Calls Tryd.prog 39 #[.int .u64 a0, .int .i64 a1] w fun e w' => ∃ v0_ : Value, e = .returned (v0_) ∧ Kd.R (Kd.int .u8) 5 w' w.heap.size (fun _ => True) v0_ r ∧ Below w.heap.size w w' := by
 have HB := am (Below.refl w.heap.size w)
 have H : (if 0 ≤ a1 then (if (a1 : Int).toNat ≤ 281474976710656 then (examboardref49_bytes.l0 k a0 (List.replicate (a1 : Int).toNat 0) (wrap64 (a1 - 1))) else (none)) else (none)) = some r := h
 clear h
 replace H := it_ H
 obtain ⟨c3, H⟩ := H
 have c3b0 := eq_true c3
 have c3b1 : decide (0 ≤ a1) = true := decide_eq_true c3
 clear c3
 replace H := it_ H
 obtain ⟨c4, H⟩ := H
 have c4b0 := eq_true c4
 have c4b1 : decide ((a1 : Int).toNat ≤ 281474976710656) = true := decide_eq_true c4
 clear c4
 obtain ⟨y591, hy591⟩ : ∃ y_ : List Int, y_ = (List.replicate (a1 : Int).toNat 0) := ⟨_, rfl⟩
 replace H : (examboardref49_bytes.l0 k a0 y591 (wrap64 (a1 - 1))) = some r := by first | (rw [hy591]; with_reducible exact H) | (have H2_ := (Option.bind_some _ _).symm.trans H; rw [hy591]; with_reducible exact H2_) | (have H2_ := (Option.bind_some _ _).symm.trans H; with_reducible exact H2_) | with_reducible exact H | (rw [hy591]; exact H) | exact H
 have Ny591 := am hy591
 clear hy591
 have H' := am H
 clear H
 go_enter Tryd.func39, Tryd.ntmps39
 go_wp2_with (first | ((with_reducible refine gate_dst (N := 8) rfl ?_); refine Kd.R_make (Kd.int .u8) _ 5 rfl (N := 8) rfl 24 _ _ rfl a1 rfl rfl Tryd.underlying24 (.int .u8 0) 1 info5 rfl (by decide) (by omega) 0 (ok := fun _ => True) (okp := fun _ => True) rfl (fun _ hk => hk) trivial (of_decide_eq_true az) (Nat.le_trans (Nat.mul_le_mul_right _ (of_decide_eq_true az : a1.toNat ≤ 281474976710656)) (by omega)) (Below.refl _ _) (Nat.le_refl _) ?_; intro v592 w5 ho6 hb hg_ hnew_; clear hg_ hnew_; (first | rw [← Ny591.out] at ho6 | (simp only [Int.reduceToNat] at ho6; rw [← Ny591.out] at ho6)); have HO593 := am (Kd.R_lower ho6 (below_size (hz HB.out))); replace HB := am (below_step (hz HB.out) hb); clear hb ho6))
 go_loopg [0, 6] k (fun kq v0 v6 w' => ∃ (x0_1 : Int) (x5_1 : List Int) (x6_1 : Int), v0 = .int .u64 x0_1 ∧ v6 = .int .i64 x6_1 ∧ Aside0 (examboardref49_bytes.l0 kq x0_1 x5_1 x6_1 = some r) ∧ Aside0 (kq ≤ k) ∧ Aside0 (Kd.R (Kd.int .u8) 5 w' w.heap.size (fun _ => True) v592 x5_1) ∧ Aside0 (Below w.heap.size w w'))
 case atStart => exact ⟨(a0), (y591), (wrap64 (a1 - 1)), rfz, rfz, H', ⟨Nat.le_refl _⟩, ⟨rz HO593.out⟩, ⟨hz HB.out⟩⟩
 case round =>
  clear H'
  obtain ⟨x0_1, x5_1, x6_1, rfl, rfl, HA, HK1, HO_5, HB⟩ := hrel
  cases gk with
  | zero => exact absurd HA.out (by simp [examboardref49_bytes.l0])
  | succ k1 =>
   have H := HA.out
   clear HA
   simp only [examboardref49_bytes.l0] at H
   by_cases c7 : x6_1 ≥ 0
   ·
    rw [if_pos c7] at H
    have c7b0 : decide (0 ≤ x6_1) = true := decide_eq_true c7
    clear c7
    replace H := it_ H
    obtain ⟨c8, H⟩ := H
    have c8b0 : decide (0 ≤ x6_1) = true := decide_eq_true c8
    clear c8
    replace H := it_ H
    obtain ⟨c9, H⟩ := H
    have c9b0 : decide (x6_1 < (x5_1.length : Int)) = true := decide_eq_true c9
    clear c9
    obtain ⟨y594, hy594⟩ : ∃ y_ : List Int, y_ = (x5_1.set (x6_1 : Int).toNat ((Int.tmod x0_1 256) % 256)) := ⟨_, rfl⟩
    replace H : (examboardref49_bytes.l0 k1 (IntKind.u64.wrap (Int.tdiv x0_1 256)) y594 (wrap64 (x6_1 - 1))) = some r := by first | (rw [hy594]; with_reducible exact H) | (have H2_ := (Option.bind_some _ _).symm.trans H; rw [hy594]; with_reducible exact H2_) | (have H2_ := (Option.bind_some _ _).symm.trans H; with_reducible exact H2_) | with_reducible exact H | (rw [hy594]; exact H) | exact H
    have Ny594 := am hy594
    clear hy594
    have H' := am H
    clear H
    have p10 : 0 ≤ (x6_1 : Int) := of_decide_eq_true az
    have q10 : (x6_1 : Int) < ((x5_1.length : Int) : Int) := of_decide_eq_true az
    obtain ⟨go10, co10, eo10, gb10, gl10, cl10, HG10⟩ := Kd.R_form HO_5.out (by omega)
    (first | cases eo10 | (injection eo10 with ea_ en_ ec_; (first | subst ea_ | (injection ea_ with ea_; subst ea_)); subst ec_; clear en_))
    have GB10 := am gb10
    have GG10 := am HG10
    clear gb10 gl10 HG10
    obtain ⟨hx10_0, hf10_0⟩ := Kd.R_celln 0 HO_5.out (x6_1 : Int) p10 q10
    replace p10 := eq_true p10
    replace q10 := eq_true q10
    have HP11 := Kd.R_putg HO_5.out (x6_1 : Int) ((Int.tmod x0_1 256) % 256)
    go_wp2_with (first | ((with_reducible refine gate_store (t := 5) (p := 20) rfl ?_); refine store_event (t := 5) (p := 20) (v := ?vo_w12) (w1 := (wr.setCell ⟨go10, (x6_1 : Int).toNat, none⟩ (.int .u8 ((Int.tmod x0_1 256) % 256)))) ?hg ?ho ?hn ?hr ?_; (case ho => rfl); (case hg => rfl); (case hn => rfl); (case hr => exact gz); intro w12 hw; have hg : wr.grownBy w12 (some go10) := (by rw [hw]; exact HP11.2); have hp_ : Kd.R (Kd.int .u8) 5 w12 w.heap.size (fun _ => True) (.slice (some ⟨go10, 0, none⟩) x5_1.length co10) y594 := (by rw [hw, Ny594.out]; exact HP11.1); clear HP11; replace HO_5 := am (hp_); replace HB := am ((by rw [hw]; exact below_set (HB.out) GB10.out : Below w.heap.size w w12)); clear hg hw hp_))
    go_roundg k1
    case measure => have := HK1.out; omega
    case rel => exact ⟨(IntKind.u64.wrap (Int.tdiv x0_1 256)), (y594), (wrap64 (x6_1 - 1)), rfz, rfz, H', ⟨by have := HK1.out; omega⟩, ⟨rz HO_5.out⟩, ⟨hz HB.out⟩⟩
   ·
    rw [if_neg c7] at H
    have c7b0 : decide (0 ≤ x6_1) = false := decide_eq_false c7
    clear c7
    obtain rfl := Option.some.inj H
    go_wp2
    go_ret
    exact ⟨_, ew, rz HO_5.out, hz HB.out⟩

/-! ### examboardref49_Append: function 20 -/
def examboardref49_Append.j0 : Nat → List Int → Int → List Int → Bool → Option (List Int × Int)
 | 0, _, _, _, _ => none
 | k + 1, x0, x8, x10, x38 => if x38 = true then (some (([] : List Int), 5)) else ((examboardref49_bytes.f k (IntKind.u64.wrap ((x10.length : Int))) 4).bind fun t610 => (if t610.length + x10.length < 140737488355328 then ((some (t610 ++ x10 : List Int)).bind fun y613 => ((examboardref49_copied.f k x0).bind fun t616 => (if t616.length + y613.length < 140737488355328 then ((some (t616 ++ y613 : List Int)).bind fun y619 => ((examboardref11_Chain.f k x8 y613).bind fun t622 => ((examboardref49_bytes.f k t622 8).bind fun t623 => (if y619.length + t623.length < 140737488355328 then (some ((y619 ++ t623), 0)) else (none))))) else (none)))) else (none)))
def examboardref49_Append.f (k : Nat) (l0 : List Int) (a1_0 : Int) (a1_1 : Int) (a1_2 : Int) (a1_3 : ByteArray) (l1_4 : List (S43)) : Option (List Int × Int) := (examboardref49_read.f k l0).bind fun bt600 => (if bt600.2.2.2 = 0 then ((examboardref10_Encode.f k a1_0 a1_1 a1_2 a1_3 l1_4).bind fun bt606 => (if bt606.2 = 0 then (if (bt606.1.length : Int) > 2000 then (examboardref49_Append.j0 k l0 bt600.2.2.1 bt606.1 true) else (examboardref49_Append.j0 k l0 bt600.2.2.1 bt606.1 (decide ((bt600.1.length : Int) ≥ 300)))) else (some (([] : List Int), 1)))) else (some (([] : List Int), bt600.2.2.2)))
theorem examboardref49_Append.mono_l : ∀ k, (∀ y0 y1 y2 y3, LeO (examboardref49_Append.j0 k y0 y1 y2 y3) (examboardref49_Append.j0 (k + 1) y0 y1 y2 y3))
 | 0 => fun _ _ _ _ r h => by simp [examboardref49_Append.j0] at h
 | k + 1 => by
  have ih0 := examboardref49_Append.mono_l k
  ·
   intro y0 y1 y2 y3
   unfold examboardref49_Append.j0
   repeat' first
   | (with_reducible exact ih0 _ _ _ _)
   | (with_reducible exact examboardref10_Encode.mono _ _ _ _ _ _)
   | (with_reducible exact examboardref11_Chain.mono _ _ _)
   | (with_reducible exact examboardref49_bytes.mono _ _ _)
   | (with_reducible exact examboardref49_copied.mono _ _)
   | (with_reducible exact examboardref49_read.mono _ _)
   | (with_reducible exact LeO.refl _)
   | (with_reducible exact LeO.none _)
   | (with_reducible refine LeO.ite ?_ ?_)
   | (with_reducible refine LeO.bind ?_ (fun _ => ?_))
   | exact ih0 _ _ _ _
   | exact examboardref10_Encode.mono _ _ _ _ _ _
   | exact examboardref11_Chain.mono _ _ _
   | exact examboardref49_bytes.mono _ _ _
   | exact examboardref49_copied.mono _ _
   | exact examboardref49_read.mono _ _
   | exact LeO.none _
   | refine LeO.ite ?_ ?_
   | refine LeO.bind ?_ (fun _ => ?_)
theorem examboardref49_Append.mono : ∀ a0 a1 a2 a3 a4 a5 k, LeO (examboardref49_Append.f k a0 a1 a2 a3 a4 a5) (examboardref49_Append.f (k + 1) a0 a1 a2 a3 a4 a5) := by
 intro a0 a1 a2 a3 a4 a5 k
 have ih0 := examboardref49_Append.mono_l k
 unfold examboardref49_Append.f
 repeat' first
   | (with_reducible exact ih0 _ _ _ _)
   | (with_reducible exact examboardref10_Encode.mono _ _ _ _ _ _)
   | (with_reducible exact examboardref11_Chain.mono _ _ _)
   | (with_reducible exact examboardref49_bytes.mono _ _ _)
   | (with_reducible exact examboardref49_copied.mono _ _)
   | (with_reducible exact examboardref49_read.mono _ _)
   | (with_reducible exact LeO.refl _)
   | (with_reducible exact LeO.none _)
   | (with_reducible refine LeO.ite ?_ ?_)
   | (with_reducible refine LeO.bind ?_ (fun _ => ?_))
   | exact ih0 _ _ _ _
   | exact examboardref10_Encode.mono _ _ _ _ _ _
   | exact examboardref11_Chain.mono _ _ _
   | exact examboardref49_bytes.mono _ _ _
   | exact examboardref49_copied.mono _ _
   | exact examboardref49_read.mono _ _
   | exact LeO.none _
   | refine LeO.ite ?_ ?_
   | refine LeO.bind ?_ (fun _ => ?_)
set_option maxHeartbeats 8000000 in
set_option maxRecDepth 100000 in
theorem examboardref49_Append.calls (k : Nat) (A0 : Option Addr) (c0 : Nat) (l0 : List Int) (a1_0 : Int) (a1_1 : Int) (a1_2 : Int) (a1_3 : ByteArray) (A1_4 : Option Addr) (c1_4 : Nat) (l1_4 : List (S43)) (r1 : List Int) (r2 : Int) (w : World) (hr0 : Kd.C (Kd.int .u8) w A0 l0.length l0) (hc0 : l0.length ≤ c0) (hr1_4 : Kd.C k43 w A1_4 l1_4.length l1_4) (hc1_4 : l1_4.length ≤ c1_4) (h : examboardref49_Append.f k l0 a1_0 a1_1 a1_2 a1_3 l1_4 = some (r1, r2)) :
  Calls Tryd.prog 20 #[.slice A0 l0.length c0, .agg #[.int .i64 a1_0, .int .i64 a1_1, .int .i64 a1_2, .string a1_3, .slice A1_4 l1_4.length c1_4]] w fun e w' => ∃ v0_ : Value, e = .returned (.tuple #[v0_, .int .i64 r2]) ∧ Kd.R (Kd.int .u8) 5 w' w.heap.size (fun _ => True) v0_ r1 ∧ Below w.heap.size w w' := by
 have hu43 := Tryd.underlying43
 have HR0 := am hr0
 have HC0 := am hc0
 clear hr0 hc0
 have HR1_4 := am hr1_4
 have HC1_4 := am hc1_4
 clear hr1_4 hc1_4
 have HB := am (Below.refl w.heap.size w)
 have H : ((examboardref49_read.f k l0).bind fun bt600 => (if bt600.2.2.2 = 0 then ((examboardref10_Encode.f k a1_0 a1_1 a1_2 a1_3 l1_4).bind fun bt606 => (if bt606.2 = 0 then (if (bt606.1.length : Int) > 2000 then (examboardref49_Append.j0 k l0 bt600.2.2.1 bt606.1 true) else (examboardref49_Append.j0 k l0 bt600.2.2.1 bt606.1 (decide ((bt600.1.length : Int) ≥ 300)))) else (some (([] : List Int), 1)))) else (some (([] : List Int), bt600.2.2.2)))) = some (r1, r2) := h
 clear h
 replace H := Option.bind_eq_some_iff.mp H
 obtain ⟨⟨t600, t603, t604, t605⟩, A30, H⟩ := H
 try dsimp only at H
 have A3 := am A30
 clear A30
 by_cases c4 : t605 = 0
 ·
  rw [if_pos c4] at H
  have c4b0 : (t605 == 0) = true := beq_iff_eq.mpr c4
  have c4b1 : (t605 != 0) = false := bne_eq_false_iff_eq.mpr c4
  clear c4
  replace H := Option.bind_eq_some_iff.mp H
  obtain ⟨⟨t606, t609⟩, A50, H⟩ := H
  try dsimp only at H
  have A5 := am A50
  clear A50
  by_cases c6 : t609 = 0
  ·
   rw [if_pos c6] at H
   have c6b0 : (t609 == 0) = true := beq_iff_eq.mpr c6
   have c6b1 : (t609 != 0) = false := bne_eq_false_iff_eq.mpr c6
   clear c6
   have HC7 := am H
   clear H
   go_enter Tryd.func20, Tryd.ntmps20
   go_upto_region 7 with (first | ((with_reducible refine gate_dst (N := 3) rfl ?_); (try (refine gate_guard (by rfl) ?_; dsimp only)); refine box_event rfl (N := 3) rfl (cs := #[.int .i64 a1_0, .int .i64 a1_1, .int .i64 a1_2, .string a1_3, .slice A1_4 l1_4.length c1_4]) (t := 43) gz ?_; intro gb599 hg w8 hbox hb; have BK599 := am (hbox); have GW599 := am ((bs hg (hz HB.out) : w.heap.size ≤ gb599)); have GE599 := am ((bs hg (hz HB.out) : w.heap.size ≤ gb599)); replace HB := am (below_step (hz HB.out) hb); clear hb hbox hg) | ((with_reducible refine gate_callee (f := 37) rfl ?_); refine goesL_ (some 16) rfl rfl Tryd.func37 (by kernel_rfl) rfl #[.slice A0 l0.length c0] rfl lz ?_; (with_reducible refine (examboardref49_read.calls k _ _ l0 t600 t603 t604 t605 _ ?side1 ?side2 A3.out).mono ?_); (case side1 => exact cz (Kd.C_below HR0.out HB.out)); (case side2 => exact HC0.out); rintro e w9 ⟨v601, rfl, ho0, hb⟩; refine ⟨_, rfl, ?_⟩; have HO602 := am (Kd.N_lower (Kd.N_mono (ok' := fun k_ => k_ ≠ gb599) ho0 (fun k_ hk_ => (Kd.freshB (g := gb599) (o := .cells #[.int .i64 a1_0, .int .i64 a1_1, .int .i64 a1_2, .string a1_3, .slice A1_4 l1_4.length c1_4] 43 (0, 0)) (bz BK599.out) k_ hk_))) (below_size (hz1 HB.out GE599.out))); replace BK599 := am (blk_below (bz BK599.out) hb); replace HB := am (below_step (hz1 HB.out GE599.out) hb); obtain ⟨hcz10_0, hcz10_1, hcz10_2, hcz10_3, hcz10_4⟩ := cs5 BK599.out; obtain ⟨hfz10_0, hfz10_1, hfz10_2, hfz10_3, hfz10_4⟩ := fs5 BK599.out) | ((with_reducible refine gate_callee (f := 38) rfl ?_); refine goesL_ (some 26) rfl rfl Tryd.func38 (by kernel_rfl) rfl #[.agg #[.int .i64 a1_0, .int .i64 a1_1, .int .i64 a1_2, .string a1_3, .slice A1_4 l1_4.length c1_4]] rfl lz ?_; (with_reducible refine (examboardref10_Encode.calls k a1_0 a1_1 a1_2 a1_3 _ _ l1_4 t606 t609 _ ?side1 ?side2 A5.out).mono ?_); (case side1 => exact cz (Kd.C_below HR1_4.out HB.out)); (case side2 => exact HC1_4.out); rintro e w11 ⟨v607, rfl, ho0, hb⟩; refine ⟨_, rfl, ?_⟩; replace HO602 := am (Kd.N_elder' (nz HO602.out) (Kd.R_base ho0) hb); have HO608 := am (Kd.R_lower ho0 (below_size (hz1 HB.out GE599.out))); replace BK599 := am (blk_below (bz BK599.out) hb); replace HB := am (below_step (hz1 HB.out GE599.out) hb)))
   (try simp only [Act.put, List.setIfInBounds_toArray, List.set_cons_zero, List.set_cons_succ])
   go_cut [38] (fun v38 wc => ∃ (kq : Nat) (x38_6 : Bool), v38 = .bool x38_6 ∧ Aside0 (examboardref49_Append.j0 kq l0 t604 t606 x38_6 = some (r1, r2)) ∧ Aside0 (kq ≤ k) ∧ Aside0 (Kd.R (Kd.int .u8) 5 wc w.heap.size (fun _ => True) v607 t606) ∧ Aside0 (wc.heap[gb599]? = some (.cells #[.int .i64 a1_0, .int .i64 a1_1, .int .i64 a1_2, .string a1_3, (.slice A1_4 l1_4.length c1_4)] 43 (0, 0))) ∧ Aside0 (Below w.heap.size w wc))
   case first =>
    have H := HC7.out
    clear HC7
    by_cases c12 : (t606.length : Int) > 2000
    ·
     rw [if_pos c12] at H
     have c12b0 : decide (2000 < (t606.length : Int)) = true := decide_eq_true c12
     have c12b1 : decide (2000 < t606.length) = true := decide_eq_true (by omega)
     clear c12
     (first | rw [c12b0] | (simp only [i64_w, i32_w]; rw [c12b0]) | skip)
     have H' := am H
     clear H
     obtain ⟨Ao13, co13, eo13⟩ := Kd.R_slice HO608.out
     subst eo13
     go_wp2
     go_meet
     case rel => exact ⟨_, (true), rfz, H', ⟨by first | omega | exact Nat.le_refl _⟩, ⟨rz HO608.out⟩, ⟨by (with_reducible repeat (first | refine blk_drewN ?_ _ | refine blk_drew ?_ | refine blk_alloc ?_ _)); exact BK599.out⟩, ⟨hz1 HB.out GE599.out⟩⟩
    ·
     rw [if_neg c12] at H
     have c12b0 : decide (2000 < (t606.length : Int)) = false := decide_eq_false c12
     have c12b1 : decide (2000 < t606.length) = false := decide_eq_false (by omega)
     clear c12
     (first | rw [c12b0] | (simp only [i64_w, i32_w]; rw [c12b0]) | skip)
     have H' := am H
     clear H
     obtain ⟨Ao14, co14, eo14⟩ := Kd.R_slice HO608.out
     subst eo14
     obtain ⟨Ao15, co15, eo15⟩ := Kd.N_slice HO602.out
     subst eo15
     go_wp2
     go_meet
     case rel => exact ⟨_, (decide ((t600.length : Int) ≥ 300)), rfz, H', ⟨by first | omega | exact Nat.le_refl _⟩, ⟨rz HO608.out⟩, ⟨by (with_reducible repeat (first | refine blk_drewN ?_ _ | refine blk_drew ?_ | refine blk_alloc ?_ _)); exact BK599.out⟩, ⟨hz1 HB.out GE599.out⟩⟩
   case rest =>
    clear HC7
    obtain ⟨kq, x38_6, rfl, HA, HJ6, HO_10, BK599, HB⟩ := hcut
    cases kq with
    | zero => exact absurd HA.out (by simp [examboardref49_Append.j0])
    | succ kj6 =>
     have H := HA.out
     clear HA
     simp only [examboardref49_Append.j0] at H
     by_cases c16 : x38_6 = true
     ·
      subst c16
      have H1 := H
      rw [if_pos rfl] at H1
      clear H
      have H := H1
      clear H1
      simp only [Option.some.injEq, Prod.mk.injEq] at H
      obtain ⟨rfl, rfl⟩ := H
      go_wp2
      go_ret2
      exact ⟨_, ew, nlz, hz1 HB.out GE599.out⟩
     ·
      replace c16 := Bool.eq_false_iff.mpr c16
      subst c16
      have H1 := H
      rw [if_neg (show ¬ (false = true) by decide)] at H1
      clear H
      have H := H1
      clear H1
      replace H := Option.bind_eq_some_iff.mp H
      obtain ⟨t610, A170, H⟩ := H
      try dsimp only at H
      have A17 := am A170
      clear A170
      replace H := it_ H
      obtain ⟨c18, H⟩ := H
      have LMc18 := am c18
      clear c18
      obtain ⟨y613, hy613⟩ : ∃ y_ : List Int, y_ = (t610 ++ t606) := ⟨_, rfl⟩
      replace H : ((examboardref49_copied.f kj6 l0).bind fun t616 => (if t616.length + y613.length < 140737488355328 then ((some (t616 ++ y613 : List Int)).bind fun y619 => ((examboardref11_Chain.f kj6 t604 y613).bind fun t622 => ((examboardref49_bytes.f kj6 t622 8).bind fun t623 => (if y619.length + t623.length < 140737488355328 then (some ((y619 ++ t623), 0)) else (none))))) else (none))) = some (r1, r2) := by first | (rw [hy613]; with_reducible exact H) | (have H2_ := (Option.bind_some _ _).symm.trans H; rw [hy613]; with_reducible exact H2_) | (have H2_ := (Option.bind_some _ _).symm.trans H; with_reducible exact H2_) | with_reducible exact H | (rw [hy613]; exact H) | exact H
      have Ny613 := am hy613
      clear hy613
      replace H := Option.bind_eq_some_iff.mp H
      obtain ⟨t616, A190, H⟩ := H
      try dsimp only at H
      have A19 := am A190
      clear A190
      replace H := it_ H
      obtain ⟨c20, H⟩ := H
      have LMc20 := am c20
      clear c20
      obtain ⟨y619, hy619⟩ : ∃ y_ : List Int, y_ = (t616 ++ y613) := ⟨_, rfl⟩
      replace H : ((examboardref11_Chain.f kj6 t604 y613).bind fun t622 => ((examboardref49_bytes.f kj6 t622 8).bind fun t623 => (if y619.length + t623.length < 140737488355328 then (some ((y619 ++ t623), 0)) else (none)))) = some (r1, r2) := by first | (rw [hy619]; with_reducible exact H) | (have H2_ := (Option.bind_some _ _).symm.trans H; rw [hy619]; with_reducible exact H2_) | (have H2_ := (Option.bind_some _ _).symm.trans H; with_reducible exact H2_) | with_reducible exact H | (rw [hy619]; exact H) | exact H
      have Ny619 := am hy619
      clear hy619
      replace H := Option.bind_eq_some_iff.mp H
      obtain ⟨t622, A210, H⟩ := H
      try dsimp only at H
      have A21 := am A210
      clear A210
      replace H := Option.bind_eq_some_iff.mp H
      obtain ⟨t623, A220, H⟩ := H
      try dsimp only at H
      have A22 := am A220
      clear A220
      replace H := it_ H
      obtain ⟨c23, H⟩ := H
      have LMc23 := am c23
      clear c23
      obtain ⟨y626, hy626⟩ : ∃ y_ : List Int, y_ = (y619 ++ t623) := ⟨_, rfl⟩
      replace H : (some (y626, 0)) = some (r1, r2) := by first | (rw [hy626]; with_reducible exact H) | (have H2_ := (Option.bind_some _ _).symm.trans H; rw [hy626]; with_reducible exact H2_) | (have H2_ := (Option.bind_some _ _).symm.trans H; with_reducible exact H2_) | with_reducible exact H | (rw [hy626]; exact H) | exact H
      have Ny626 := am hy626
      clear hy626
      simp only [Option.some.injEq, Prod.mk.injEq] at H
      obtain ⟨rfl, rfl⟩ := H
      obtain ⟨Ao24, co24, eo24⟩ := Kd.R_slice HO_10.out
      subst eo24
      go_wp2_with (first | ((with_reducible refine gate_callee (f := 39) rfl ?_); refine goesL_ (some 42) rfl rfl Tryd.func39 (by kernel_rfl) rfl #[.int .u64 (IntKind.u64.wrap ((t606.length : Int))), .int .i64 4] rfl lz ?_; (with_reducible refine (examboardref49_bytes.calls kj6 (IntKind.u64.wrap ((t606.length : Int))) 4 t610 _ A17.out).mono ?_); rintro e w25 ⟨v611, rfl, ho0, hb⟩; refine ⟨_, rfl, ?_⟩; have HO612 := am (Kd.R_lower (Kd.R_new' ho0 (Kd.R_lt (rz HO_10.out))) (below_size (hz1 HB.out GE599.out))); replace HO_10 := am (Kd.R_elder' (rz HO_10.out) (Kd.R_base ho0) hb); replace BK599 := am (blk_below (bz BK599.out) hb); replace HB := am (below_step (hz1 HB.out GE599.out) hb)) | ((with_reducible refine gate_builtin (b := .append) (xs := #[.tmp 42, .tmp 43]) rfl ?_); (try (refine gate_guard (by rfl) ?_; dsimp only)); at_builtin; refine Kd.R_append_rows (Kd.int .u8) (w0 := w) w.heap.size rfl (.tmp 42) (.tmp 43) 24 5 (.int .u8 0) 1 rfl Tryd.underlying24 info5 rfl (by decide) (by omega) v611 t610 t606 _ _ _ (fun k_ => some k_ ≠ (.slice Ao24 t606.length co24 : Value).ownBlock) (fun _ => False) rfl rfl ?aO ?aR (fun _ _ h => h) (fun _ h => h.elim) ?aF ?aB ?aS ?aL ?_; (case aR => exact cz (Kd.R_reads' HO_10.out).2.2); (case aB => exact (hz1 HB.out GE599.out)); (case aF => exact (fun k_ hk => Kd.fresh' (Kd.R_lt (rz HO_10.out)) k_ hk)); (case aO => exact (rz (Kd.R_mono HO612.out (fun _ hk => hk.2)))); (case aS => exact (below_size (hz1 HB.out GE599.out))); (case aL => have := LMc18.out; omega); intro v614 w26 ho hb hg hat; rw [← Ny613.out] at ho; replace HO_10 := am (Kd.R_after (ok := (fun _ => True)) (rz HO_10.out) hg hat); replace BK599 := am (blk_grown (bz BK599.out) hg (Kd.R_ne HO612.out BK599.out (by decide))); replace HB := am (hb); have HO615 := am (ho); clear HO612; clear ho hb hg hat) | ((with_reducible refine gate_callee (f := 40) rfl ?_); refine goesL_ (some 46) rfl rfl Tryd.func40 (by kernel_rfl) rfl #[.slice A0 l0.length c0] rfl lz ?_; (with_reducible refine (examboardref49_copied.calls kj6 _ _ l0 t616 _ ?side1 ?side2 A19.out).mono ?_); (case side1 => exact cz (Kd.C_below HR0.out HB.out)); (case side2 => exact HC0.out); rintro e w27 ⟨v617, rfl, ho0, hb⟩; refine ⟨_, rfl, ?_⟩; have HO618 := am (Kd.R_lower (Kd.R_new' (Kd.R_new' ho0 (Kd.R_lt (rz HO_10.out))) (Kd.R_lt (rz HO615.out))) (below_size (hz1 HB.out GE599.out))); replace HO_10 := am (Kd.R_elder' (rz HO_10.out) (Kd.R_base ho0) hb); replace HO615 := am (Kd.R_elder' (rz HO615.out) (Kd.R_base ho0) hb); replace BK599 := am (blk_below (bz BK599.out) hb); replace HB := am (below_step (hz1 HB.out GE599.out) hb); obtain ⟨Ao29, co29, eo29⟩ := Kd.R_slice HO615.out; subst eo29) | ((with_reducible refine gate_builtin (b := .append) (xs := #[.tmp 46, .tmp 47]) rfl ?_); (try (refine gate_guard (by rfl) ?_; dsimp only)); at_builtin; refine Kd.R_append_rows (Kd.int .u8) (w0 := w) w.heap.size rfl (.tmp 46) (.tmp 47) 24 5 (.int .u8 0) 1 rfl Tryd.underlying24 info5 rfl (by decide) (by omega) v617 t616 y613 _ _ _ (fun k_ => some k_ ≠ (.slice Ao24 t606.length co24 : Value).ownBlock ∧ some k_ ≠ (.slice Ao29 y613.length co29 : Value).ownBlock) (fun _ => False) rfl rfl ?aO ?aR (fun _ _ h => h) (fun _ h => h.elim) ?aF ?aB ?aS ?aL ?_; (case aR => exact cz (Kd.R_reads' HO615.out).2.2); (case aB => exact (hz1 HB.out GE599.out)); (case aF => exact (fun k_ hk => ⟨Kd.fresh' (Kd.R_lt (rz HO_10.out)) k_ hk, Kd.fresh' (Kd.R_lt (rz HO615.out)) k_ hk⟩)); (case aO => exact (rz (Kd.R_mono HO618.out (fun _ hk => ⟨hk.1.2, hk.2⟩)))); (case aS => exact (below_size (hz1 HB.out GE599.out))); (case aL => have := LMc20.out; omega); intro v620 w28 ho hb hg hat; rw [← Ny619.out] at ho; replace HO_10 := am (Kd.R_after (ok := (fun k_ => some k_ ≠ (.slice Ao29 y613.length co29 : Value).ownBlock)) (rz (Kd.R_mono HO_10.out (fun _ hk => ⟨hk.1.2, hk.2⟩))) hg hat); replace BK599 := am (blk_grown (bz BK599.out) hg (Kd.R_ne HO618.out BK599.out (by decide))); replace HO615 := am (Kd.R_after (ok := (fun k_ => some k_ ≠ (.slice Ao24 t606.length co24 : Value).ownBlock)) (rz HO615.out) hg hat); replace HB := am (hb); have HO621 := am (ho); clear HO618; clear ho hb hg hat) | ((with_reducible refine gate_callee (f := 41) rfl ?_); refine goesL_ (some 52) rfl rfl Tryd.func41 (by kernel_rfl) rfl #[.int .u64 t604, .slice Ao29 y613.length co29] rfl lz ?_; (with_reducible refine (examboardref11_Chain.calls kj6 t604 _ _ y613 t622 _ ?side1 ?side2 A21.out).mono ?_); (case side1 => exact cz (Kd.R_reads' HO615.out).2.2); (case side2 => exact (Kd.R_reads' HO615.out).2.1); rintro e w' ⟨rfl, ⟨nd, rfl⟩⟩; refine ⟨_, rfl, ?_⟩) | ((with_reducible refine gate_callee (f := 39) rfl ?_); refine goesL_ (some 53) rfl rfl Tryd.func39 (by kernel_rfl) rfl #[.int .u64 t622, .int .i64 8] rfl lz ?_; (with_reducible refine (examboardref49_bytes.calls kj6 t622 8 t623 _ A22.out).mono ?_); rintro e w30 ⟨v624, rfl, ho0, hb⟩; refine ⟨_, rfl, ?_⟩; have HO625 := am (Kd.R_lower (Kd.R_new' (Kd.R_new' (Kd.R_new' ho0 (Kd.R_lt (rz HO_10.out))) (Kd.R_lt (rz HO615.out))) (Kd.R_lt (rz HO621.out))) (below_size (hz1 HB.out GE599.out))); replace HO_10 := am (Kd.R_elder' (rz HO_10.out) (Kd.R_base ho0) hb); replace HO615 := am (Kd.R_elder' (rz HO615.out) (Kd.R_base ho0) hb); replace HO621 := am (Kd.R_elder' (rz HO621.out) (Kd.R_base ho0) hb); replace BK599 := am (blk_below (bz BK599.out) hb); replace HB := am (below_step (hz1 HB.out GE599.out) hb); obtain ⟨Ao32, co32, eo32⟩ := Kd.R_slice HO625.out; subst eo32) | ((with_reducible refine gate_builtin (b := .append) (xs := #[.tmp 49, .tmp 53]) rfl ?_); (try (refine gate_guard (by rfl) ?_; dsimp only)); at_builtin; refine Kd.R_append_rows (Kd.int .u8) (w0 := w) w.heap.size rfl (.tmp 49) (.tmp 53) 24 5 (.int .u8 0) 1 rfl Tryd.underlying24 info5 rfl (by decide) (by omega) v620 y619 t623 _ _ _ (fun k_ => some k_ ≠ (.slice Ao24 t606.length co24 : Value).ownBlock ∧ some k_ ≠ (.slice Ao29 y613.length co29 : Value).ownBlock ∧ some k_ ≠ (.slice Ao32 t623.length co32 : Value).ownBlock) (fun _ => False) rfl rfl ?aO ?aR (fun _ _ h => h) (fun _ h => h.elim) ?aF ?aB ?aS ?aL ?_; (case aR => exact cz (Kd.R_reads' HO625.out).2.2); (case aB => exact (hz1 HB.out GE599.out)); (case aF => exact (fun k_ hk => ⟨Kd.fresh' (Kd.R_lt (rz HO_10.out)) k_ hk, Kd.fresh' (Kd.R_lt (rz HO615.out)) k_ hk, Kd.fresh' (Kd.R_lt (rz HO625.out)) k_ hk⟩)); (case aO => exact (rz (Kd.R_mono HO621.out (fun _ hk => ⟨hk.1.1, ⟨hk.1.2, hk.2⟩⟩)))); (case aS => exact (below_size (hz1 HB.out GE599.out))); (case aL => have := LMc23.out; omega); intro v627 w31 ho hb hg hat; rw [← Ny626.out] at ho; replace HO_10 := am (Kd.R_after (ok := (fun k_ => some k_ ≠ (.slice Ao29 y613.length co29 : Value).ownBlock ∧ some k_ ≠ (.slice Ao32 t623.length co32 : Value).ownBlock)) (rz (Kd.R_mono HO_10.out (fun _ hk => ⟨⟨hk.1.1, hk.2⟩, hk.1.2⟩))) hg hat); replace BK599 := am (blk_grown (bz BK599.out) hg (Kd.R_ne HO621.out BK599.out (by decide))); replace HO615 := am (Kd.R_after (ok := (fun k_ => some k_ ≠ (.slice Ao24 t606.length co24 : Value).ownBlock ∧ some k_ ≠ (.slice Ao32 t623.length co32 : Value).ownBlock)) (rz (Kd.R_mono HO615.out (fun _ hk => ⟨⟨hk.1.1, hk.2⟩, hk.1.2⟩))) hg hat); replace HO625 := am (Kd.R_after (ok := (fun k_ => some k_ ≠ (.slice Ao24 t606.length co24 : Value).ownBlock ∧ some k_ ≠ (.slice Ao29 y613.length co29 : Value).ownBlock)) (rz (Kd.R_mono HO625.out (fun _ hk => ⟨⟨hk.1.1.2, hk.1.2⟩, hk.2⟩))) hg hat); replace HB := am (hb); have HO628 := am (ho); clear HO621; clear ho hb hg hat))
      go_ret2
      exact ⟨_, ew, by (with_reducible repeat (first | apply Kd.R_alloc | apply Kd.R_drewN | apply Kd.R_drew)); exact Kd.R_mono HO628.out (fun _ hk => trivial), hz1 HB.out GE599.out⟩
  ·
   rw [if_neg c6] at H
   have c6b0 : (t609 == 0) = false := beq_eq_false_iff_ne.mpr c6
   have c6b1 : (t609 != 0) = true := bne_iff_ne.mpr c6
   simp only [Option.some.injEq, Prod.mk.injEq] at H
   obtain ⟨rfl, rfl⟩ := H
   go_enter Tryd.func20, Tryd.ntmps20
   go_wp2_with (first | ((with_reducible refine gate_dst (N := 3) rfl ?_); (try (refine gate_guard (by rfl) ?_; dsimp only)); refine box_event rfl (N := 3) rfl (cs := #[.int .i64 a1_0, .int .i64 a1_1, .int .i64 a1_2, .string a1_3, .slice A1_4 l1_4.length c1_4]) (t := 43) gz ?_; intro gb599 hg w33 hbox hb; have BK599 := am (hbox); have GW599 := am ((bs hg (hz HB.out) : w.heap.size ≤ gb599)); have GE599 := am ((bs hg (hz HB.out) : w.heap.size ≤ gb599)); replace HB := am (below_step (hz HB.out) hb); clear hb hbox hg) | ((with_reducible refine gate_callee (f := 37) rfl ?_); refine goesL_ (some 16) rfl rfl Tryd.func37 (by kernel_rfl) rfl #[.slice A0 l0.length c0] rfl lz ?_; (with_reducible refine (examboardref49_read.calls k _ _ l0 t600 t603 t604 t605 _ ?side1 ?side2 A3.out).mono ?_); (case side1 => exact cz (Kd.C_below HR0.out HB.out)); (case side2 => exact HC0.out); rintro e w34 ⟨v601, rfl, ho0, hb⟩; refine ⟨_, rfl, ?_⟩; have HO602 := am (Kd.N_lower (Kd.N_mono (ok' := fun k_ => k_ ≠ gb599) ho0 (fun k_ hk_ => (Kd.freshB (g := gb599) (o := .cells #[.int .i64 a1_0, .int .i64 a1_1, .int .i64 a1_2, .string a1_3, .slice A1_4 l1_4.length c1_4] 43 (0, 0)) (bz BK599.out) k_ hk_))) (below_size (hz1 HB.out GE599.out))); replace BK599 := am (blk_below (bz BK599.out) hb); replace HB := am (below_step (hz1 HB.out GE599.out) hb); obtain ⟨hcz35_0, hcz35_1, hcz35_2, hcz35_3, hcz35_4⟩ := cs5 BK599.out; obtain ⟨hfz35_0, hfz35_1, hfz35_2, hfz35_3, hfz35_4⟩ := fs5 BK599.out) | ((with_reducible refine gate_callee (f := 38) rfl ?_); refine goesL_ (some 26) rfl rfl Tryd.func38 (by kernel_rfl) rfl #[.agg #[.int .i64 a1_0, .int .i64 a1_1, .int .i64 a1_2, .string a1_3, .slice A1_4 l1_4.length c1_4]] rfl lz ?_; (with_reducible refine (examboardref10_Encode.calls k a1_0 a1_1 a1_2 a1_3 _ _ l1_4 t606 t609 _ ?side1 ?side2 A5.out).mono ?_); (case side1 => exact cz (Kd.C_below HR1_4.out HB.out)); (case side2 => exact HC1_4.out); rintro e w36 ⟨v607, rfl, ho0, hb⟩; refine ⟨_, rfl, ?_⟩; replace HO602 := am (Kd.N_elder' (nz HO602.out) (Kd.R_base ho0) hb); have HO608 := am (Kd.R_lower ho0 (below_size (hz1 HB.out GE599.out))); replace BK599 := am (blk_below (bz BK599.out) hb); replace HB := am (below_step (hz1 HB.out GE599.out) hb)))
   go_ret2
   exact ⟨_, ew, nlz, hz1 HB.out GE599.out⟩
 ·
  rw [if_neg c4] at H
  have c4b0 : (t605 == 0) = false := beq_eq_false_iff_ne.mpr c4
  have c4b1 : (t605 != 0) = true := bne_iff_ne.mpr c4
  simp only [Option.some.injEq, Prod.mk.injEq] at H
  obtain ⟨rfl, rfl⟩ := H
  go_enter Tryd.func20, Tryd.ntmps20
  go_wp2_with (first | ((with_reducible refine gate_dst (N := 3) rfl ?_); (try (refine gate_guard (by rfl) ?_; dsimp only)); refine box_event rfl (N := 3) rfl (cs := #[.int .i64 a1_0, .int .i64 a1_1, .int .i64 a1_2, .string a1_3, .slice A1_4 l1_4.length c1_4]) (t := 43) gz ?_; intro gb599 hg w37 hbox hb; have BK599 := am (hbox); have GW599 := am ((bs hg (hz HB.out) : w.heap.size ≤ gb599)); have GE599 := am ((bs hg (hz HB.out) : w.heap.size ≤ gb599)); replace HB := am (below_step (hz HB.out) hb); clear hb hbox hg) | ((with_reducible refine gate_callee (f := 37) rfl ?_); refine goesL_ (some 16) rfl rfl Tryd.func37 (by kernel_rfl) rfl #[.slice A0 l0.length c0] rfl lz ?_; (with_reducible refine (examboardref49_read.calls k _ _ l0 t600 t603 t604 t605 _ ?side1 ?side2 A3.out).mono ?_); (case side1 => exact cz (Kd.C_below HR0.out HB.out)); (case side2 => exact HC0.out); rintro e w38 ⟨v601, rfl, ho0, hb⟩; refine ⟨_, rfl, ?_⟩; have HO602 := am (Kd.N_lower (Kd.N_mono (ok' := fun k_ => k_ ≠ gb599) ho0 (fun k_ hk_ => (Kd.freshB (g := gb599) (o := .cells #[.int .i64 a1_0, .int .i64 a1_1, .int .i64 a1_2, .string a1_3, .slice A1_4 l1_4.length c1_4] 43 (0, 0)) (bz BK599.out) k_ hk_))) (below_size (hz1 HB.out GE599.out))); replace BK599 := am (blk_below (bz BK599.out) hb); replace HB := am (below_step (hz1 HB.out GE599.out) hb)))
  go_ret2
  exact ⟨_, ew, nlz, hz1 HB.out GE599.out⟩

/-! ### examboardref49_Extends: function 21 -/
def examboardref49_Extends.l0 : Nat → List Int → List Int → Int → Int → Option (Bool)
 | 0, _, _, _, _ => none
 | k + 1, x0, x12, x13, x14 => if x14 < x13 then (if 0 ≤ x14 then (if x14 < (x12.length : Int) then (if x14 < (x0.length : Int) then (if (rd x0 x14) = (rd x12 x14) then (examboardref49_Extends.l0 k x0 x12 x13 (wrap64 (x14 + 1))) else (some false)) else (none)) else (none)) else (none)) else (some true)
def examboardref49_Extends.f (k : Nat) (l0 : List Int) (l1 : List Int) : Option (Bool) := if (l1.length : Int) > (l0.length : Int) then (some false) else (examboardref49_Extends.l0 k l0 l1 (l1.length : Int) 0)
theorem examboardref49_Extends.mono_l : ∀ k, (∀ y0 y1 y2 y3, LeO (examboardref49_Extends.l0 k y0 y1 y2 y3) (examboardref49_Extends.l0 (k + 1) y0 y1 y2 y3))
 | 0 => fun _ _ _ _ r h => by simp [examboardref49_Extends.l0] at h
 | k + 1 => by
  have ih0 := examboardref49_Extends.mono_l k
  ·
   intro y0 y1 y2 y3
   unfold examboardref49_Extends.l0
   repeat' first
   | (with_reducible exact ih0 _ _ _ _)
   | (with_reducible exact LeO.refl _)
   | (with_reducible exact LeO.none _)
   | (with_reducible refine LeO.ite ?_ ?_)
   | (with_reducible refine LeO.bind ?_ (fun _ => ?_))
   | exact ih0 _ _ _ _
   | exact LeO.none _
   | refine LeO.ite ?_ ?_
   | refine LeO.bind ?_ (fun _ => ?_)
theorem examboardref49_Extends.mono : ∀ a0 a1 k, LeO (examboardref49_Extends.f k a0 a1) (examboardref49_Extends.f (k + 1) a0 a1) := by
 intro a0 a1 k
 have ih0 := examboardref49_Extends.mono_l k
 unfold examboardref49_Extends.f
 repeat' first
   | (with_reducible exact ih0 _ _ _ _)
   | (with_reducible exact LeO.refl _)
   | (with_reducible exact LeO.none _)
   | (with_reducible refine LeO.ite ?_ ?_)
   | (with_reducible refine LeO.bind ?_ (fun _ => ?_))
   | exact ih0 _ _ _ _
   | exact LeO.none _
   | refine LeO.ite ?_ ?_
   | refine LeO.bind ?_ (fun _ => ?_)
set_option maxHeartbeats 8000000 in
set_option maxRecDepth 100000 in
theorem examboardref49_Extends.calls (k : Nat) (A0 : Option Addr) (c0 : Nat) (l0 : List Int) (A1 : Option Addr) (c1 : Nat) (l1 : List Int) (r : Bool) (w : World) (hr0 : Kd.C (Kd.int .u8) w A0 l0.length l0) (hc0 : l0.length ≤ c0) (hr1 : Kd.C (Kd.int .u8) w A1 l1.length l1) (hc1 : l1.length ≤ c1) (h : examboardref49_Extends.f k l0 l1 = some r) :
  Calls Tryd.prog 21 #[.slice A0 l0.length c0, .slice A1 l1.length c1] w fun e w' => e = .returned (.bool r) ∧ Drawn0 w w' := by
 have HR0 := am hr0
 have HC0 := am hc0
 clear hr0 hc0
 have HR1 := am hr1
 have HC1 := am hc1
 clear hr1 hc1
 have H : (if (l1.length : Int) > (l0.length : Int) then (some false) else (examboardref49_Extends.l0 k l0 l1 (l1.length : Int) 0)) = some r := h
 clear h
 by_cases c3 : (l1.length : Int) > (l0.length : Int)
 ·
  rw [if_pos c3] at H
  have c3b0 : decide ((l0.length : Int) < (l1.length : Int)) = true := decide_eq_true c3
  have c3b1 : decide (l0.length < l1.length) = true := decide_eq_true (Int.ofNat_lt.mp c3)
  clear c3
  obtain rfl := Option.some.inj H
  go_enter Tryd.func21, Tryd.ntmps21
  go_wp2
  go_ret
  exact ⟨by first | rfl | (simp; done) | (simp [*]; done), by repeat (first | exact Drawn0.refl _ | apply Drawn0.step)⟩
 ·
  rw [if_neg c3] at H
  have c3b0 : decide ((l0.length : Int) < (l1.length : Int)) = false := decide_eq_false c3
  have c3b1 : decide (l0.length < l1.length) = false := decide_eq_false (fun h => c3 (Int.ofNat_lt.mpr h))
  clear c3
  have H' := am H
  clear H
  go_enter Tryd.func21, Tryd.ntmps21
  go_wp2
  go_loopg [14] k (fun kq v14 w' => ∃ (x14_1 : Int), v14 = .int .i64 x14_1 ∧ Aside0 (examboardref49_Extends.l0 kq l0 l1 (l1.length : Int) x14_1 = some r) ∧ Aside0 (kq ≤ k) ∧ Drawn0 w w')
  case atStart => exact ⟨(0), rfz, H', ⟨Nat.le_refl _⟩, by repeat (first | exact Drawn0.refl _ | apply Drawn0.step)⟩
  case round =>
   clear H'
   obtain ⟨x14_1, rfl, HA, HK1, ⟨m1, rfl⟩⟩ := hrel
   cases gk with
   | zero => exact absurd HA.out (by simp [examboardref49_Extends.l0])
   | succ k1 =>
    have H := HA.out
    clear HA
    simp only [examboardref49_Extends.l0] at H
    by_cases c4 : x14_1 < (l1.length : Int)
    ·
     rw [if_pos c4] at H
     have c4b0 : decide (x14_1 < (l1.length : Int)) = true := decide_eq_true c4
     clear c4
     replace H := it_ H
     obtain ⟨c5, H⟩ := H
     have c5b0 : decide (0 ≤ x14_1) = true := decide_eq_true c5
     clear c5
     replace H := it_ H
     obtain ⟨c6, H⟩ := H
     have c6b0 : decide (x14_1 < (l1.length : Int)) = true := decide_eq_true c6
     clear c6
     replace H := it_ H
     obtain ⟨c7, H⟩ := H
     have c7b0 : decide (x14_1 < (l0.length : Int)) = true := decide_eq_true c7
     clear c7
     by_cases c8 : (rd l0 x14_1) = (rd l1 x14_1)
     ·
      rw [if_pos c8] at H
      have c8b0 : ((rd l0 x14_1) == (rd l1 x14_1)) = true := beq_iff_eq.mpr c8
      have c8b1 : ((rd l0 x14_1) != (rd l1 x14_1)) = false := bne_eq_false_iff_eq.mpr c8
      clear c8
      have H' := am H
      clear H
      have p629 : 0 ≤ (x14_1 : Int) := of_decide_eq_true az
      have q629 : x14_1 < (l1.length : Int) := of_decide_eq_true az
      obtain ⟨ad629, e629, hx629_0⟩ := Kd.at_int HR1.out x14_1 p629 q629
      cases e629
      replace p629 := eq_true p629
      replace q629 := eq_true q629
      have p630 : 0 ≤ (x14_1 : Int) := of_decide_eq_true az
      have q630 : x14_1 < (l0.length : Int) := of_decide_eq_true az
      obtain ⟨ad630, e630, hx630_0⟩ := Kd.at_int HR0.out x14_1 p630 q630
      cases e630
      replace p630 := eq_true p630
      replace q630 := eq_true q630
      go_wp2
      go_roundg k1
      case measure => have := HK1.out; omega
      case rel => exact ⟨(wrap64 (x14_1 + 1)), rfz, H', ⟨by have := HK1.out; omega⟩, by repeat (first | exact Drawn0.refl _ | apply Drawn0.step)⟩
     ·
      rw [if_neg c8] at H
      have c8b0 : ((rd l0 x14_1) == (rd l1 x14_1)) = false := beq_eq_false_iff_ne.mpr c8
      have c8b1 : ((rd l0 x14_1) != (rd l1 x14_1)) = true := bne_iff_ne.mpr c8
      obtain rfl := Option.some.inj H
      have p629 : 0 ≤ (x14_1 : Int) := of_decide_eq_true az
      have q629 : x14_1 < (l1.length : Int) := of_decide_eq_true az
      obtain ⟨ad629, e629, hx629_0⟩ := Kd.at_int HR1.out x14_1 p629 q629
      cases e629
      replace p629 := eq_true p629
      replace q629 := eq_true q629
      have p630 : 0 ≤ (x14_1 : Int) := of_decide_eq_true az
      have q630 : x14_1 < (l0.length : Int) := of_decide_eq_true az
      obtain ⟨ad630, e630, hx630_0⟩ := Kd.at_int HR0.out x14_1 p630 q630
      cases e630
      replace p630 := eq_true p630
      replace q630 := eq_true q630
      go_wp2
      go_ret
      exact ⟨by first | rfl | (simp; done) | (simp [*]; done), by repeat (first | exact Drawn0.refl _ | apply Drawn0.step)⟩
    ·
     rw [if_neg c4] at H
     have c4b0 : decide (x14_1 < (l1.length : Int)) = false := decide_eq_false c4
     clear c4
     obtain rfl := Option.some.inj H
     go_wp2
     go_ret
     exact ⟨by first | rfl | (simp; done) | (simp [*]; done), by repeat (first | exact Drawn0.refl _ | apply Drawn0.step)⟩

end Go.Proofs.YteeggfnailpcpaaDoor.Q
