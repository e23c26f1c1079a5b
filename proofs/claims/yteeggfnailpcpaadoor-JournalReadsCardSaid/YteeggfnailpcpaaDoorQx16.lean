/- Made by wip/myprint.py of this session (it drives the kit's printer): what the calls of the Go functions come to, as plain Lean functions, and the row of a law over them; without conditions. -/
import Derived.Test.YteeggfnailpcpaaDoorQx0
import Derived.Test.YteeggfnailpcpaaDoorQx14
import Derived.Test.YteeggfnailpcpaaDoorQx15
namespace Go.Proofs.YteeggfnailpcpaaDoor.Q
open Go.RowKit Go.Proofs.YteeggfnailpcpaaDoorW.PrintWords Go.Proofs.YteeggfnailpcpaaDoorW.PrintLast Go.Proofs.YteeggfnailpcpaaDoorW.PrintMore
attribute [local go_sem] max2_int min2_int max_two min_two max_three min_three max_four min_four   -- for this text's walks alone
set_option linter.unusedVariables false
set_option linter.unusedSimpArgs false

/-! ### examboardref49_entry: function 48 -/
def examboardref49_entry.f (k : Nat) (l0 : List Int) (a1 : Int) (a2 : Int) : Option (Int × Int × Int × ByteArray × (List (S43)) × Int × Int × Int) := if a1 ≥ 300 then (some (0, 0, 0, (⟨#[]⟩ : ByteArray), ([] : List (S43)), 0, 0, 5)) else (if (l0.length : Int) < 4 then (some (0, 0, 0, (⟨#[]⟩ : ByteArray), ([] : List (S43)), 0, 0, 4)) else ((examboardref49_number.f k l0 4).bind fun t516 => (if t516 > 2000 then (some (0, 0, 0, (⟨#[]⟩ : ByteArray), ([] : List (S43)), 0, 0, 5)) else (if (l0.length : Int) < (wrap64 ((wrap64 (4 + (wrap64 (t516)))) + 8)) then (some (0, 0, 0, (⟨#[]⟩ : ByteArray), ([] : List (S43)), 0, 0, 4)) else (if 0 ≤ (wrap64 (4 + (wrap64 (t516)))) then (if (wrap64 (4 + (wrap64 (t516)))) ≤ (l0.length : Int) then ((examboardref11_Chain.f k a2 (l0.take ((wrap64 (4 + (wrap64 (t516)))) : Int).toNat)).bind fun t518 => ((examboardref49_number.f k (l0.drop ((wrap64 (4 + (wrap64 (t516)))) : Int).toNat) 8).bind fun t520 => (if t520 = t518 then (if 4 ≤ (wrap64 (4 + (wrap64 (t516)))) then ((examboardref10_Decode.f k ((l0.take ((wrap64 (4 + (wrap64 (t516)))) : Int).toNat).drop 4)).bind fun bt522 => (if bt522.2.2.2.2.2.2 = 0 then (if bt522.2.2.2.2.2.1 = (wrap64 (t516)) then (some (bt522.1, bt522.2.1, bt522.2.2.1, bt522.2.2.2.1, bt522.2.2.2.2.1, wrap64 ((wrap64 (4 + (wrap64 (t516)))) + 8), t518, 0)) else (some (0, 0, 0, (⟨#[]⟩ : ByteArray), ([] : List (S43)), 0, 0, 2))) else (some (0, 0, 0, (⟨#[]⟩ : ByteArray), ([] : List (S43)), 0, 0, 2)))) else (none)) else (some (0, 0, 0, (⟨#[]⟩ : ByteArray), ([] : List (S43)), 0, 0, 12))))) else (none)) else (none))))))
theorem examboardref49_entry.mono : ∀ a0 a1 a2 k, LeO (examboardref49_entry.f k a0 a1 a2) (examboardref49_entry.f (k + 1) a0 a1 a2) := by
 intro a0 a1 a2 k
 unfold examboardref49_entry.f
 repeat' first
   | (with_reducible exact examboardref10_Decode.mono _ _)
   | (with_reducible exact examboardref11_Chain.mono _ _ _)
   | (with_reducible exact examboardref49_number.mono _ _ _)
   | (with_reducible exact LeO.refl _)
   | (with_reducible exact LeO.none _)
   | (with_reducible refine LeO.ite ?_ ?_)
   | (with_reducible refine LeO.bind ?_ (fun _ => ?_))
   | exact examboardref10_Decode.mono _ _
   | exact examboardref11_Chain.mono _ _ _
   | exact examboardref49_number.mono _ _ _
   | exact LeO.none _
   | refine LeO.ite ?_ ?_
   | refine LeO.bind ?_ (fun _ => ?_)
set_option maxHeartbeats 8000000 in
set_option maxRecDepth 100000 in
theorem examboardref49_entry.calls (k : Nat) (A0 : Option Addr) (c0 : Nat) (l0 : List Int) (a1 : Int) (a2 : Int) (r1 : Int) (r2 : Int) (r3 : Int) (r4 : ByteArray) (r5 : List (S43)) (r6 : Int) (r7 : Int) (r8 : Int) (w : World) (hr0 : Kd.C (Kd.int .u8) w A0 l0.length l0) (hc0 : l0.length ≤ c0) (h : examboardref49_entry.f k l0 a1 a2 = some (r1, r2, r3, r4, r5, r6, r7, r8)) :
  Calls Tryd.prog 48 #[.slice A0 l0.length c0, .int .i64 a1, .int .u64 a2] w fun e w' => ∃ v4_ : Value, e = .returned (.tuple #[.agg #[.int .i64 r1, .int .i64 r2, .int .i64 r3, .string r4, v4_], .int .i64 r6, .int .u64 r7, .int .i64 r8]) ∧ Kd.V k43 43 w' w.heap.size (fun k_ => (w.heap.size ≤ k_)) v4_ r5 ∧ Below w.heap.size w w' := by
 have hu43 := Tryd.underlying43
 have HR0 := am hr0
 have HC0 := am hc0
 clear hr0 hc0
 have HB := am (Below.refl w.heap.size w)
 have H : (if a1 ≥ 300 then (some (0, 0, 0, (⟨#[]⟩ : ByteArray), ([] : List (S43)), 0, 0, 5)) else (if (l0.length : Int) < 4 then (some (0, 0, 0, (⟨#[]⟩ : ByteArray), ([] : List (S43)), 0, 0, 4)) else ((examboardref49_number.f k l0 4).bind fun t516 => (if t516 > 2000 then (some (0, 0, 0, (⟨#[]⟩ : ByteArray), ([] : List (S43)), 0, 0, 5)) else (if (l0.length : Int) < (wrap64 ((wrap64 (4 + (wrap64 (t516)))) + 8)) then (some (0, 0, 0, (⟨#[]⟩ : ByteArray), ([] : List (S43)), 0, 0, 4)) else (if 0 ≤ (wrap64 (4 + (wrap64 (t516)))) then (if (wrap64 (4 + (wrap64 (t516)))) ≤ (l0.length : Int) then ((examboardref11_Chain.f k a2 (l0.take ((wrap64 (4 + (wrap64 (t516)))) : Int).toNat)).bind fun t518 => ((examboardref49_number.f k (l0.drop ((wrap64 (4 + (wrap64 (t516)))) : Int).toNat) 8).bind fun t520 => (if t520 = t518 then (if 4 ≤ (wrap64 (4 + (wrap64 (t516)))) then ((examboardref10_Decode.f k ((l0.take ((wrap64 (4 + (wrap64 (t516)))) : Int).toNat).drop 4)).bind fun bt522 => (if bt522.2.2.2.2.2.2 = 0 then (if bt522.2.2.2.2.2.1 = (wrap64 (t516)) then (some (bt522.1, bt522.2.1, bt522.2.2.1, bt522.2.2.2.1, bt522.2.2.2.2.1, wrap64 ((wrap64 (4 + (wrap64 (t516)))) + 8), t518, 0)) else (some (0, 0, 0, (⟨#[]⟩ : ByteArray), ([] : List (S43)), 0, 0, 2))) else (some (0, 0, 0, (⟨#[]⟩ : ByteArray), ([] : List (S43)), 0, 0, 2)))) else (none)) else (some (0, 0, 0, (⟨#[]⟩ : ByteArray), ([] : List (S43)), 0, 0, 12))))) else (none)) else (none))))))) = some (r1, r2, r3, r4, r5, r6, r7, r8) := h
 clear h
 by_cases c4 : a1 ≥ 300
 ·
  rw [if_pos c4] at H
  have c4b0 : decide (300 ≤ a1) = true := decide_eq_true c4
  clear c4
  simp only [Option.some.injEq, Prod.mk.injEq] at H
  obtain ⟨rfl, rfl, rfl, rfl, rfl, rfl, rfl, rfl⟩ := H
  go_enter Tryd.func48, Tryd.ntmps48
  go_wp2_with (first | ((with_reducible refine gate_dst (N := 6) rfl ?_); refine box_event rfl (N := 6) rfl (cs := #[.int .i64 0, .int .i64 0, .int .i64 0, .string (⟨#[]⟩ : ByteArray), .slice none 0 0]) (t := 43) gz ?_; intro gb515 hg w5 hbox hb; have BK515 := am (hbox); have GW515 := am ((bs hg (hz HB.out) : w.heap.size ≤ gb515)); have GE515 := am ((bs hg (hz HB.out) : w.heap.size ≤ gb515)); replace HB := am (below_step (hz HB.out) hb); clear hb hbox hg; obtain ⟨hcz6_0, hcz6_1, hcz6_2, hcz6_3, hcz6_4⟩ := cs5 BK515.out; obtain ⟨hfz6_0, hfz6_1, hfz6_2, hfz6_3, hfz6_4⟩ := fs5 BK515.out))
  refine bodyPost_ret (results_list (rs := [.cell 6 43, .tmp 7, .tmp 8, .tmp 9]) rfl (by simp) (.cell gb515 43 #[.int .i64 0, .int .i64 0, .int .i64 0, .string (⟨#[]⟩ : ByteArray), .slice none 0 0] (0, 0) _ rfl (bp BK515.out) Tryd.underlying43 rfl (by kernel_rfl) (.tmp (.tmp (.tmp .nil))))) rfl ?_
  exact ⟨_, by first | rfl | (simp [errW_none, errW_some] <;> rfl) | (simp [*, errW_none, errW_some] <;> rfl), Kd.V_nil _ _ _ _ _, hz1 HB.out GE515.out⟩
 ·
  rw [if_neg c4] at H
  have c4b0 : decide (300 ≤ a1) = false := decide_eq_false c4
  clear c4
  by_cases c7 : (l0.length : Int) < 4
  ·
   rw [if_pos c7] at H
   have c7b0 : decide ((l0.length : Int) < 4) = true := decide_eq_true c7
   have c7b1 : decide (l0.length < 4) = true := decide_eq_true (by omega)
   clear c7
   simp only [Option.some.injEq, Prod.mk.injEq] at H
   obtain ⟨rfl, rfl, rfl, rfl, rfl, rfl, rfl, rfl⟩ := H
   go_enter Tryd.func48, Tryd.ntmps48
   go_wp2_with (first | ((with_reducible refine gate_dst (N := 6) rfl ?_); refine box_event rfl (N := 6) rfl (cs := #[.int .i64 0, .int .i64 0, .int .i64 0, .string (⟨#[]⟩ : ByteArray), .slice none 0 0]) (t := 43) gz ?_; intro gb515 hg w8 hbox hb; have BK515 := am (hbox); have GW515 := am ((bs hg (hz HB.out) : w.heap.size ≤ gb515)); have GE515 := am ((bs hg (hz HB.out) : w.heap.size ≤ gb515)); replace HB := am (below_step (hz HB.out) hb); clear hb hbox hg; obtain ⟨hcz9_0, hcz9_1, hcz9_2, hcz9_3, hcz9_4⟩ := cs5 BK515.out; obtain ⟨hfz9_0, hfz9_1, hfz9_2, hfz9_3, hfz9_4⟩ := fs5 BK515.out))
   refine bodyPost_ret (results_list (rs := [.cell 6 43, .tmp 7, .tmp 8, .tmp 9]) rfl (by simp) (.cell gb515 43 #[.int .i64 0, .int .i64 0, .int .i64 0, .string (⟨#[]⟩ : ByteArray), .slice none 0 0] (0, 0) _ rfl (bp BK515.out) Tryd.underlying43 rfl (by kernel_rfl) (.tmp (.tmp (.tmp .nil))))) rfl ?_
   exact ⟨_, by first | rfl | (simp [errW_none, errW_some] <;> rfl) | (simp [*, errW_none, errW_some] <;> rfl), Kd.V_nil _ _ _ _ _, hz1 HB.out GE515.out⟩
  ·
   rw [if_neg c7] at H
   have c7b0 : decide ((l0.length : Int) < 4) = false := decide_eq_false c7
   have c7b1 : decide (l0.length < 4) = false := decide_eq_false (by omega)
   clear c7
   replace H := Option.bind_eq_some_iff.mp H
   obtain ⟨t516, A100, H⟩ := H
   replace H : (if t516 > 2000 then (some (0, 0, 0, (⟨#[]⟩ : ByteArray), ([] : List (S43)), 0, 0, 5)) else (if (l0.length : Int) < (wrap64 ((wrap64 (4 + (wrap64 (t516)))) + 8)) then (some (0, 0, 0, (⟨#[]⟩ : ByteArray), ([] : List (S43)), 0, 0, 4)) else (if 0 ≤ (wrap64 (4 + (wrap64 (t516)))) then (if (wrap64 (4 + (wrap64 (t516)))) ≤ (l0.length : Int) then ((examboardref11_Chain.f k a2 (l0.take ((wrap64 (4 + (wrap64 (t516)))) : Int).toNat)).bind fun t518 => ((examboardref49_number.f k (l0.drop ((wrap64 (4 + (wrap64 (t516)))) : Int).toNat) 8).bind fun t520 => (if t520 = t518 then (if 4 ≤ (wrap64 (4 + (wrap64 (t516)))) then ((examboardref10_Decode.f k ((l0.take ((wrap64 (4 + (wrap64 (t516)))) : Int).toNat).drop 4)).bind fun bt522 => (if bt522.2.2.2.2.2.2 = 0 then (if bt522.2.2.2.2.2.1 = (wrap64 (t516)) then (some (bt522.1, bt522.2.1, bt522.2.2.1, bt522.2.2.2.1, bt522.2.2.2.2.1, wrap64 ((wrap64 (4 + (wrap64 (t516)))) + 8), t518, 0)) else (some (0, 0, 0, (⟨#[]⟩ : ByteArray), ([] : List (S43)), 0, 0, 2))) else (some (0, 0, 0, (⟨#[]⟩ : ByteArray), ([] : List (S43)), 0, 0, 2)))) else (none)) else (some (0, 0, 0, (⟨#[]⟩ : ByteArray), ([] : List (S43)), 0, 0, 12))))) else (none)) else (none)))) = some (r1, r2, r3, r4, r5, r6, r7, r8) := H
   have A10 := am A100
   clear A100
   by_cases c11 : t516 > 2000
   ·
    rw [if_pos c11] at H
    have c11b0 : decide (2000 < t516) = true := decide_eq_true c11
    clear c11
    simp only [Option.some.injEq, Prod.mk.injEq] at H
    obtain ⟨rfl, rfl, rfl, rfl, rfl, rfl, rfl, rfl⟩ := H
    go_enter Tryd.func48, Tryd.ntmps48
    go_wp2_with (first | ((with_reducible refine gate_dst (N := 6) rfl ?_); refine box_event rfl (N := 6) rfl (cs := #[.int .i64 0, .int .i64 0, .int .i64 0, .string (⟨#[]⟩ : ByteArray), .slice none 0 0]) (t := 43) gz ?_; intro gb515 hg w12 hbox hb; have BK515 := am (hbox); have GW515 := am ((bs hg (hz HB.out) : w.heap.size ≤ gb515)); have GE515 := am ((bs hg (hz HB.out) : w.heap.size ≤ gb515)); replace HB := am (below_step (hz HB.out) hb); clear hb hbox hg) | ((with_reducible refine gate_callee (f := 62) rfl ?_); refine goesL_ (some 24) rfl rfl Tryd.func62 (by kernel_rfl) rfl #[.slice A0 l0.length c0, .int .i64 4] rfl lz ?_; (with_reducible refine (examboardref49_number.calls k _ _ l0 4 t516 _ ?side1 ?side2 A10.out).mono ?_); (case side1 => exact cz (Kd.C_below HR0.out HB.out)); (case side2 => exact HC0.out); rintro e w' ⟨rfl, ⟨nd, rfl⟩⟩; refine ⟨_, rfl, ?_⟩; (try (rw [drewN_self w12]; generalize hq_ : World.drewN w12 _ = w12; have n0_ : Aside0 (w12.heap[gb515]? = some (.cells #[.int .i64 0, .int .i64 0, .int .i64 0, .string (⟨#[]⟩ : ByteArray), .slice none 0 0] 43 (0, 0))) := ⟨by rw [← hq_]; exact (bz BK515.out)⟩; have n1_ : Aside0 (Below w.heap.size w w12) := ⟨by rw [← hq_]; exact (hz1 HB.out GE515.out)⟩; clear BK515 HB hq_; have BK515 := n0_; have HB := n1_; clear n0_ n1_)); obtain ⟨hcz13_0, hcz13_1, hcz13_2, hcz13_3, hcz13_4⟩ := cs5 BK515.out; obtain ⟨hfz13_0, hfz13_1, hfz13_2, hfz13_3, hfz13_4⟩ := fs5 BK515.out))
    refine bodyPost_ret (results_list (rs := [.cell 6 43, .tmp 7, .tmp 8, .tmp 9]) rfl (by simp) (.cell gb515 43 #[.int .i64 0, .int .i64 0, .int .i64 0, .string (⟨#[]⟩ : ByteArray), .slice none 0 0] (0, 0) _ rfl (bp BK515.out) Tryd.underlying43 rfl (by kernel_rfl) (.tmp (.tmp (.tmp .nil))))) rfl ?_
    exact ⟨_, by first | rfl | (simp [errW_none, errW_some] <;> rfl) | (simp [*, errW_none, errW_some] <;> rfl), Kd.V_nil _ _ _ _ _, hz1 HB.out GE515.out⟩
   ·
    rw [if_neg c11] at H
    have c11b0 : decide (2000 < t516) = false := decide_eq_false c11
    clear c11
    by_cases c14 : (l0.length : Int) < (wrap64 ((wrap64 (4 + (wrap64 (t516)))) + 8))
    ·
     rw [if_pos c14] at H
     have c14b0 : decide ((l0.length : Int) < (wrap64 ((wrap64 (4 + (wrap64 (t516)))) + 8))) = true := decide_eq_true c14
     clear c14
     simp only [Option.some.injEq, Prod.mk.injEq] at H
     obtain ⟨rfl, rfl, rfl, rfl, rfl, rfl, rfl, rfl⟩ := H
     go_enter Tryd.func48, Tryd.ntmps48
     go_wp2_with (first | ((with_reducible refine gate_dst (N := 6) rfl ?_); refine box_event rfl (N := 6) rfl (cs := #[.int .i64 0, .int .i64 0, .int .i64 0, .string (⟨#[]⟩ : ByteArray), .slice none 0 0]) (t := 43) gz ?_; intro gb515 hg w15 hbox hb; have BK515 := am (hbox); have GW515 := am ((bs hg (hz HB.out) : w.heap.size ≤ gb515)); have GE515 := am ((bs hg (hz HB.out) : w.heap.size ≤ gb515)); replace HB := am (below_step (hz HB.out) hb); clear hb hbox hg) | ((with_reducible refine gate_callee (f := 62) rfl ?_); refine goesL_ (some 24) rfl rfl Tryd.func62 (by kernel_rfl) rfl #[.slice A0 l0.length c0, .int .i64 4] rfl lz ?_; (with_reducible refine (examboardref49_number.calls k _ _ l0 4 t516 _ ?side1 ?side2 A10.out).mono ?_); (case side1 => exact cz (Kd.C_below HR0.out HB.out)); (case side2 => exact HC0.out); rintro e w' ⟨rfl, ⟨nd, rfl⟩⟩; refine ⟨_, rfl, ?_⟩; (try (rw [drewN_self w15]; generalize hq_ : World.drewN w15 _ = w15; have n0_ : Aside0 (w15.heap[gb515]? = some (.cells #[.int .i64 0, .int .i64 0, .int .i64 0, .string (⟨#[]⟩ : ByteArray), .slice none 0 0] 43 (0, 0))) := ⟨by rw [← hq_]; exact (bz BK515.out)⟩; have n1_ : Aside0 (Below w.heap.size w w15) := ⟨by rw [← hq_]; exact (hz1 HB.out GE515.out)⟩; clear BK515 HB hq_; have BK515 := n0_; have HB := n1_; clear n0_ n1_)); obtain ⟨hcz16_0, hcz16_1, hcz16_2, hcz16_3, hcz16_4⟩ := cs5 BK515.out; obtain ⟨hfz16_0, hfz16_1, hfz16_2, hfz16_3, hfz16_4⟩ := fs5 BK515.out))
     refine bodyPost_ret (results_list (rs := [.cell 6 43, .tmp 7, .tmp 8, .tmp 9]) rfl (by simp) (.cell gb515 43 #[.int .i64 0, .int .i64 0, .int .i64 0, .string (⟨#[]⟩ : ByteArray), .slice none 0 0] (0, 0) _ rfl (bp BK515.out) Tryd.underlying43 rfl (by kernel_rfl) (.tmp (.tmp (.tmp .nil))))) rfl ?_
     exact ⟨_, by first | rfl | (simp [errW_none, errW_some] <;> rfl) | (simp [*, errW_none, errW_some] <;> rfl), Kd.V_nil _ _ _ _ _, hz1 HB.out GE515.out⟩
    ·
     rw [if_neg c14] at H
     have c14b0 : decide ((l0.length : Int) < (wrap64 ((wrap64 (4 + (wrap64 (t516)))) + 8))) = false := decide_eq_false c14
     clear c14
     obtain ⟨ji17, hji17⟩ : ∃ j_ : Int, (wrap64 (4 + (wrap64 (t516)))) = j_ := ⟨_, rfl⟩
     replace H : (if 0 ≤ (ji17) then (if (ji17) ≤ (l0.length : Int) then ((examboardref11_Chain.f k a2 (l0.take ((ji17) : Int).toNat)).bind fun t518 => ((examboardref49_number.f k (l0.drop ((ji17) : Int).toNat) 8).bind fun t520 => (if t520 = t518 then (if 4 ≤ (ji17) then ((examboardref10_Decode.f k ((l0.take ((ji17) : Int).toNat).drop 4)).bind fun bt522 => (if bt522.2.2.2.2.2.2 = 0 then (if bt522.2.2.2.2.2.1 = (wrap64 (t516)) then (some (bt522.1, bt522.2.1, bt522.2.2.1, bt522.2.2.2.1, bt522.2.2.2.2.1, wrap64 ((ji17) + 8), t518, 0)) else (some (0, 0, 0, (⟨#[]⟩ : ByteArray), ([] : List (S43)), 0, 0, 2))) else (some (0, 0, 0, (⟨#[]⟩ : ByteArray), ([] : List (S43)), 0, 0, 2)))) else (none)) else (some (0, 0, 0, (⟨#[]⟩ : ByteArray), ([] : List (S43)), 0, 0, 12))))) else (none)) else (none)) = some (r1, r2, r3, r4, r5, r6, r7, r8) := by first | (rw [hji17] at H; exact H) | (simp only [hji17] at H ⊢; exact H)
     (try rw [hji17] at c14b0)
     (try rw [hji17] at A10)
     have hji17w : (IntKind.i64.wrap (4 + (wrap64 (t516)))) = ji17 := (i64_w _).trans hji17
     replace H := it_ H
     obtain ⟨c18, H⟩ := H
     have c18b0 := eq_true c18
     have c18b1 : decide (0 ≤ (ji17)) = true := decide_eq_true c18
     clear c18
     replace H := it_ H
     obtain ⟨c19, H⟩ := H
     have c19b0 := eq_true c19
     have c19b1 : decide ((ji17) ≤ (l0.length : Int)) = true := decide_eq_true c19
     clear c19
     replace H := Option.bind_eq_some_iff.mp H
     obtain ⟨t518, A200, H⟩ := H
     replace H : ((examboardref49_number.f k (l0.drop ((ji17) : Int).toNat) 8).bind fun t520 => (if t520 = t518 then (if 4 ≤ (ji17) then ((examboardref10_Decode.f k ((l0.take ((ji17) : Int).toNat).drop 4)).bind fun bt522 => (if bt522.2.2.2.2.2.2 = 0 then (if bt522.2.2.2.2.2.1 = (wrap64 (t516)) then (some (bt522.1, bt522.2.1, bt522.2.2.1, bt522.2.2.2.1, bt522.2.2.2.2.1, wrap64 ((ji17) + 8), t518, 0)) else (some (0, 0, 0, (⟨#[]⟩ : ByteArray), ([] : List (S43)), 0, 0, 2))) else (some (0, 0, 0, (⟨#[]⟩ : ByteArray), ([] : List (S43)), 0, 0, 2)))) else (none)) else (some (0, 0, 0, (⟨#[]⟩ : ByteArray), ([] : List (S43)), 0, 0, 12)))) = some (r1, r2, r3, r4, r5, r6, r7, r8) := H
     have A20 := am A200
     clear A200
     have c21b0 := eq_true (of_decide_eq_true az : 0 ≤ (ji17))
     have c22b0 := eq_true (of_decide_eq_true az : (ji17) ≤ (l0.length : Int))
     replace H := Option.bind_eq_some_iff.mp H
     obtain ⟨t520, A230, H⟩ := H
     replace H : (if t520 = t518 then (if 4 ≤ (ji17) then ((examboardref10_Decode.f k ((l0.take ((ji17) : Int).toNat).drop 4)).bind fun bt522 => (if bt522.2.2.2.2.2.2 = 0 then (if bt522.2.2.2.2.2.1 = (wrap64 (t516)) then (some (bt522.1, bt522.2.1, bt522.2.2.1, bt522.2.2.2.1, bt522.2.2.2.2.1, wrap64 ((ji17) + 8), t518, 0)) else (some (0, 0, 0, (⟨#[]⟩ : ByteArray), ([] : List (S43)), 0, 0, 2))) else (some (0, 0, 0, (⟨#[]⟩ : ByteArray), ([] : List (S43)), 0, 0, 2)))) else (none)) else (some (0, 0, 0, (⟨#[]⟩ : ByteArray), ([] : List (S43)), 0, 0, 12))) = some (r1, r2, r3, r4, r5, r6, r7, r8) := H
     have A23 := am A230
     clear A230
     by_cases c24 : t520 = t518
     ·
      rw [if_pos c24] at H
      have c24b0 : (t520 == t518) = true := beq_iff_eq.mpr c24
      have c24b1 : (t520 != t518) = false := bne_eq_false_iff_eq.mpr c24
      clear c24
      replace H := it_ H
      obtain ⟨c25, H⟩ := H
      have c25b0 := eq_true c25
      have c25b1 : decide (4 ≤ (ji17)) = true := decide_eq_true c25
      clear c25
      have c26b0 := eq_true (of_decide_eq_true az : (ji17) ≤ (l0.length : Int))
      replace H := Option.bind_eq_some_iff.mp H
      obtain ⟨⟨t522, t523, t524, t525, t526, t529, t530⟩, A270, H⟩ := H
      replace H : (if t530 = 0 then (if t529 = (wrap64 (t516)) then (some (t522, t523, t524, t525, t526, wrap64 ((ji17) + 8), t518, 0)) else (some (0, 0, 0, (⟨#[]⟩ : ByteArray), ([] : List (S43)), 0, 0, 2))) else (some (0, 0, 0, (⟨#[]⟩ : ByteArray), ([] : List (S43)), 0, 0, 2))) = some (r1, r2, r3, r4, r5, r6, r7, r8) := H
      have A27 := am A270
      clear A270
      by_cases c28 : t530 = 0
      ·
       rw [if_pos c28] at H
       have c28b0 : (t530 == 0) = true := beq_iff_eq.mpr c28
       have c28b1 : (t530 != 0) = false := bne_eq_false_iff_eq.mpr c28
       clear c28
       by_cases c29 : t529 = (wrap64 (t516))
       ·
        rw [if_pos c29] at H
        have c29b0 : (t529 == (wrap64 (t516))) = true := beq_iff_eq.mpr c29
        have c29b1 : (t529 != (wrap64 (t516))) = false := bne_eq_false_iff_eq.mpr c29
        clear c29
        simp only [Option.some.injEq, Prod.mk.injEq] at H
        obtain ⟨rfl, rfl, rfl, rfl, rfl, rfl, rfl, rfl⟩ := H
        go_enter Tryd.func48, Tryd.ntmps48
        go_wp2_with (first | ((with_reducible refine gate_dst (N := 6) rfl ?_); refine box_event rfl (N := 6) rfl (cs := #[.int .i64 0, .int .i64 0, .int .i64 0, .string (⟨#[]⟩ : ByteArray), .slice none 0 0]) (t := 43) gz ?_; intro gb515 hg w30 hbox hb; have BK515 := am (hbox); have GW515 := am ((bs hg (hz HB.out) : w.heap.size ≤ gb515)); have GE515 := am ((bs hg (hz HB.out) : w.heap.size ≤ gb515)); replace HB := am (below_step (hz HB.out) hb); clear hb hbox hg) | ((with_reducible refine gate_callee (f := 62) rfl ?_); refine goesL_ (some 24) rfl rfl Tryd.func62 (by kernel_rfl) rfl #[.slice A0 l0.length c0, .int .i64 4] rfl lz ?_; (with_reducible refine (examboardref49_number.calls k _ _ l0 4 t516 _ ?side1 ?side2 A10.out).mono ?_); (case side1 => exact cz (Kd.C_below HR0.out HB.out)); (case side2 => exact HC0.out); rintro e w' ⟨rfl, ⟨nd, rfl⟩⟩; refine ⟨_, rfl, ?_⟩; (try (rw [drewN_self w30]; generalize hq_ : World.drewN w30 _ = w30; have n0_ : Aside0 (w30.heap[gb515]? = some (.cells #[.int .i64 0, .int .i64 0, .int .i64 0, .string (⟨#[]⟩ : ByteArray), .slice none 0 0] 43 (0, 0))) := ⟨by rw [← hq_]; exact (bz BK515.out)⟩; have n1_ : Aside0 (Below w.heap.size w w30) := ⟨by rw [← hq_]; exact (hz1 HB.out GE515.out)⟩; clear BK515 HB hq_; have BK515 := n0_; have HB := n1_; clear n0_ n1_)); obtain ⟨i031, hi031, _, hsz31, _⟩ := info_parts info5; obtain ⟨hcut31, hA31, hC31⟩ := print_take_of (P := Tryd.prog) (Value.int .u8) 0 24 5 .i64 Tryd.underlying24 hi031 hsz31 A0 c0 l0 (ji17) (of_decide_eq_true az) (of_decide_eq_true az) HC0.out; have HR517 := am (Kd.C_of_reads (h1 := fun _ => rfl) (hA31 _ (Kd.reads_of_C HR0.out))); have HC517 := am hC31; clear hA31 hC31 hi031 hsz31) | ((with_reducible refine gate_callee (f := 41) rfl ?_); refine goesL_ (some 41) rfl rfl Tryd.func41 (by kernel_rfl) rfl #[.int .u64 a2, .slice A0 (l0.take ((ji17) : Int).toNat).length c0] rfl (by (try simp only [List.map_toArray, List.map_cons, List.map_nil]); first | done | (rw [show (l0.take ((ji17) : Int).toNat).length = (ji17).toNat from (by rw [List.length_take]; have h_ : ((ji17) : Int) ≤ (l0.length : Int) := of_decide_eq_true az; omega)] <;> rfl) | (simp only [hji17]; rfl) | rfl | (simp only [List.length_drop, List.length_take]; rfl)) ?_; (with_reducible refine (examboardref11_Chain.calls k a2 _ _ (l0.take ((ji17) : Int).toNat) t518 _ ?side1 ?side2 A20.out).mono ?_); (case side1 => exact cz (Kd.C_below HR517.out HB.out)); (case side2 => exact HC517.out); rintro e w' ⟨rfl, ⟨nd, rfl⟩⟩; refine ⟨_, rfl, ?_⟩; (try (rw [drewN_self w30]; generalize hq_ : World.drewN w30 _ = w30; have n0_ : Aside0 (w30.heap[gb515]? = some (.cells #[.int .i64 0, .int .i64 0, .int .i64 0, .string (⟨#[]⟩ : ByteArray), .slice none 0 0] 43 (0, 0))) := ⟨by rw [← hq_]; exact (bz BK515.out)⟩; have n1_ : Aside0 (Below w.heap.size w w30) := ⟨by rw [← hq_]; exact (hz1 HB.out GE515.out)⟩; clear BK515 HB hq_; have BK515 := n0_; have HB := n1_; clear n0_ n1_)); obtain ⟨i032, hi032, _, hsz32, _⟩ := info_parts info5; obtain ⟨A32, hcut32, hA32, hC32⟩ := print_drop_of (P := Tryd.prog) (Value.int .u8) 0 24 5 .i64 Tryd.underlying24 hi032 hsz32 A0 c0 l0 (ji17) (of_decide_eq_true az) (of_decide_eq_true az) HC0.out; have HR519 := am (Kd.C_of_reads (h1 := fun _ => rfl) (hA32 _ (Kd.reads_of_C HR0.out))); have HC519 := am hC32; clear hA32 hC32 hi032 hsz32) | ((with_reducible refine gate_callee (f := 62) rfl ?_); refine goesL_ (some 45) rfl rfl Tryd.func62 (by kernel_rfl) rfl #[.slice A32 (l0.drop ((ji17) : Int).toNat).length (c0 - (ji17).toNat), .int .i64 8] rfl (by (try simp only [List.map_toArray, List.map_cons, List.map_nil]); first | done | (rw [show (l0.drop ((ji17) : Int).toNat).length = (l0.length - (ji17).toNat) from List.length_drop] <;> rfl) | (simp only [hji17]; rfl) | rfl | (simp only [List.length_drop, List.length_take]; rfl)) ?_; (with_reducible refine (examboardref49_number.calls k _ _ (l0.drop ((ji17) : Int).toNat) 8 t520 _ ?side1 ?side2 A23.out).mono ?_); (case side1 => exact cz (Kd.C_below HR519.out HB.out)); (case side2 => exact HC519.out); rintro e w' ⟨rfl, ⟨nd, rfl⟩⟩; refine ⟨_, rfl, ?_⟩; (try (rw [drewN_self w30]; generalize hq_ : World.drewN w30 _ = w30; have n0_ : Aside0 (w30.heap[gb515]? = some (.cells #[.int .i64 0, .int .i64 0, .int .i64 0, .string (⟨#[]⟩ : ByteArray), .slice none 0 0] 43 (0, 0))) := ⟨by rw [← hq_]; exact (bz BK515.out)⟩; have n1_ : Aside0 (Below w.heap.size w w30) := ⟨by rw [← hq_]; exact (hz1 HB.out GE515.out)⟩; clear BK515 HB hq_; have BK515 := n0_; have HB := n1_; clear n0_ n1_)); obtain ⟨i033, hi033, _, hsz33, _⟩ := info_parts info5; obtain ⟨A33, hcut33, hA33, hC33⟩ := print_mid_of (P := Tryd.prog) (Value.int .u8) 0 24 5 .i64 .i64 Tryd.underlying24 hi033 hsz33 A0 c0 l0 4 (ji17) (by omega) (by first | omega | exact of_decide_eq_true az) (of_decide_eq_true az) HC0.out; have HR521 := am (Kd.C_of_reads (h1 := fun _ => rfl) (hA33 _ (Kd.reads_of_C HR0.out))); have HC521 := am hC33; clear hA33 hC33 hi033 hsz33) | ((with_reducible refine gate_callee (f := 63) rfl ?_); refine goesL_ (some 53) rfl rfl Tryd.func63 (by kernel_rfl) rfl #[.slice A33 ((l0.take ((ji17) : Int).toNat).drop 4).length (c0 - 4)] rfl (by (try simp only [List.map_toArray, List.map_cons, List.map_nil]); first | done | (rw [show ((l0.take ((ji17) : Int).toNat).drop 4).length = ((ji17).toNat - 4) from (by rw [List.length_drop, List.length_take]; have h_ : ((ji17) : Int) ≤ (l0.length : Int) := of_decide_eq_true az; omega)] <;> rfl) | (simp only [hji17]; rfl) | rfl | (simp only [List.length_drop, List.length_take]; rfl)) ?_; (with_reducible refine (examboardref10_Decode.calls k _ _ ((l0.take ((ji17) : Int).toNat).drop 4) t522 t523 t524 t525 t526 t529 t530 _ ?side1 ?side2 A27.out).mono ?_); (case side1 => exact cz (Kd.C_below HR521.out HB.out)); (case side2 => exact HC521.out); rintro e w34 ⟨v527, rfl, ho0, hb⟩; refine ⟨_, rfl, ?_⟩; have HO528 := am (Kd.V_lower (Kd.V_mono (ok' := fun k_ => (w.heap.size ≤ k_) ∧ k_ ≠ gb515) ho0 (fun k_ hk_ => ⟨(Nat.le_trans (below_size (hz1 HB.out GE515.out)) hk_), (Kd.freshB (g := gb515) (o := .cells #[.int .i64 0, .int .i64 0, .int .i64 0, .string (⟨#[]⟩ : ByteArray), .slice none 0 0] 43 (0, 0)) (bz BK515.out) k_ hk_)⟩)) (below_size (hz1 HB.out GE515.out))); replace BK515 := am (bw BK515.out hb); replace HB := am (below_step (hz1 HB.out GE515.out) hb); (try clear hb); (try clear hk); (try clear hi); (try clear ho0)) | ((with_reducible refine gate_dst (N := 13) rfl ?_); refine box_event rfl (N := 13) rfl (cs := #[.int .i64 0, .int .i64 0, .int .i64 0, .string (⟨#[]⟩ : ByteArray), .slice none 0 0]) (t := 43) gz ?_; intro gb531 hg w35 hbox hb; replace HO528 := am (Kd.V_below (Kd.V_elderB (vz HO528.out) gb531 (Nat.le_of_eq hg.symm)) hb); have BK531 := am (hbox); have GW531 := am ((bs hg (hz1 HB.out GE515.out) : w.heap.size ≤ gb531)); have GE531 := am ((bs hg (hz1 HB.out GE515.out) : w.heap.size ≤ gb531)); replace HB := am (below_step (hz1 HB.out GE515.out) hb); have NB515_531 := am ((nl hg (bz BK515.out) : gb515 ≠ gb531)); have NB531_515 := am ((ng hg (bz BK515.out) : gb531 ≠ gb515)); replace BK515 := am (bw BK515.out hb); clear hb hbox hg; have hnb36 := NB531_515.out; have hnc36 := NB515_531.out; obtain ⟨hcz37_0, hcz37_1, hcz37_2, hcz37_3, hcz37_4⟩ := cs5 BK531.out; obtain ⟨hfz37_0, hfz37_1, hfz37_2, hfz37_3, hfz37_4⟩ := fs5 BK531.out; obtain ⟨Ao38, co38, eo38⟩ := Kd.V_slice HO528.out; subst eo38; obtain ⟨hcz39_0, hcz39_1, hcz39_2, hcz39_3, hcz39_4⟩ := cs5 BK515.out; obtain ⟨hfz39_0, hfz39_1, hfz39_2, hfz39_3, hfz39_4⟩ := fs5 BK515.out))
        refine bodyPost_ret (results_list (rs := [.cell 6 43, .tmp 7, .tmp 8, .tmp 9]) rfl (by simp) (.cell gb515 43 #[.int .i64 t522, .int .i64 t523, .int .i64 t524, .string t525, .slice Ao38 t526.length co38] (0, 0) _ rfl (by (with_reducible repeat (first | refine blk_drewN ?_ _ | refine blk_drew ?_ | refine blk_alloc ?_ _)); refine blk_put (cs := #[.int .i64 t522, .int .i64 t523, .int .i64 t524, .string t525, .slice none 0 0]) ?_ 4 _ rfl; (with_reducible repeat (first | refine blk_drewN ?_ _ | refine blk_drew ?_ | refine blk_alloc ?_ _)); refine blk_put (cs := #[.int .i64 t522, .int .i64 t523, .int .i64 t524, .string (⟨#[]⟩ : ByteArray), .slice none 0 0]) ?_ 3 _ rfl; (with_reducible repeat (first | refine blk_drewN ?_ _ | refine blk_drew ?_ | refine blk_alloc ?_ _)); refine blk_put (cs := #[.int .i64 t522, .int .i64 t523, .int .i64 0, .string (⟨#[]⟩ : ByteArray), .slice none 0 0]) ?_ 2 _ rfl; (with_reducible repeat (first | refine blk_drewN ?_ _ | refine blk_drew ?_ | refine blk_alloc ?_ _)); refine blk_put (cs := #[.int .i64 t522, .int .i64 0, .int .i64 0, .string (⟨#[]⟩ : ByteArray), .slice none 0 0]) ?_ 1 _ rfl; (with_reducible repeat (first | refine blk_drewN ?_ _ | refine blk_drew ?_ | refine blk_alloc ?_ _)); refine blk_put (cs := #[.int .i64 0, .int .i64 0, .int .i64 0, .string (⟨#[]⟩ : ByteArray), .slice none 0 0]) ?_ 0 _ rfl; (with_reducible repeat (first | refine blk_drewN ?_ _ | refine blk_drew ?_ | refine blk_alloc ?_ _)); refine blk_far ?_ NB515_531.out _; (with_reducible repeat (first | refine blk_drewN ?_ _ | refine blk_drew ?_ | refine blk_alloc ?_ _)); refine blk_far ?_ NB515_531.out _; (with_reducible repeat (first | refine blk_drewN ?_ _ | refine blk_drew ?_ | refine blk_alloc ?_ _)); refine blk_far ?_ NB515_531.out _; (with_reducible repeat (first | refine blk_drewN ?_ _ | refine blk_drew ?_ | refine blk_alloc ?_ _)); refine blk_far ?_ NB515_531.out _; (with_reducible repeat (first | refine blk_drewN ?_ _ | refine blk_drew ?_ | refine blk_alloc ?_ _)); refine blk_far ?_ NB515_531.out _; (with_reducible repeat (first | refine blk_drewN ?_ _ | refine blk_drew ?_ | refine blk_alloc ?_ _)); exact BK515.out) Tryd.underlying43 rfl (by kernel_rfl) (.tmp (.tmp (.tmp .nil))))) rfl ?_
        exact ⟨_, by first | rfl | (simp [errW_none, errW_some] <;> rfl) | (simp only [← hji17]; first | rfl | (simp [errW_none, errW_some] <;> rfl)) | (simp [*, errW_none, errW_some] <;> rfl), by (with_reducible repeat (first | apply Kd.V_alloc | apply Kd.V_drewN | apply Kd.V_drew)); exact Kd.V_mono (Kd.V_far (p := ⟨gb515, 4, none⟩) (Kd.V_far (p := ⟨gb515, 3, none⟩) (Kd.V_far (p := ⟨gb515, 2, none⟩) (Kd.V_far (p := ⟨gb515, 1, none⟩) (Kd.V_far (p := ⟨gb515, 0, none⟩) (Kd.V_far (p := ⟨gb531, 4, none⟩) (Kd.V_far (p := ⟨gb531, 3, none⟩) (Kd.V_far (p := ⟨gb531, 2, none⟩) (Kd.V_far (p := ⟨gb531, 1, none⟩) (Kd.V_far (p := ⟨gb531, 0, none⟩) (Kd.V_mono (Kd.V_mono HO528.out (fun k_ hk => (⟨hk, hk.2⟩ : _ ∧ k_ ≠ gb531))) (fun k_ hk => (⟨hk, hk.1.1.2⟩ : _ ∧ k_ ≠ gb515))) (fun _ hk => hk.1.2) (.int .i64 t522)) (fun _ hk => hk.1.2) (.int .i64 t523)) (fun _ hk => hk.1.2) (.int .i64 t524)) (fun _ hk => hk.1.2) (.string t525)) (fun _ hk => hk.1.2) (.slice Ao38 t526.length co38)) (fun _ hk => hk.2) (.int .i64 t522)) (fun _ hk => hk.2) (.int .i64 t523)) (fun _ hk => hk.2) (.int .i64 t524)) (fun _ hk => hk.2) (.string t525)) (fun _ hk => hk.2) (.slice Ao38 t526.length co38)) (fun _ hk => hk.1.1.1.1), hz2 HB.out GE515.out GE531.out⟩
       ·
        rw [if_neg c29] at H
        have c29b0 : (t529 == (wrap64 (t516))) = false := beq_eq_false_iff_ne.mpr c29
        have c29b1 : (t529 != (wrap64 (t516))) = true := bne_iff_ne.mpr c29
        simp only [Option.some.injEq, Prod.mk.injEq] at H
        obtain ⟨rfl, rfl, rfl, rfl, rfl, rfl, rfl, rfl⟩ := H
        go_enter Tryd.func48, Tryd.ntmps48
        go_wp2_with (first | ((with_reducible refine gate_dst (N := 6) rfl ?_); refine box_event rfl (N := 6) rfl (cs := #[.int .i64 0, .int .i64 0, .int .i64 0, .string (⟨#[]⟩ : ByteArray), .slice none 0 0]) (t := 43) gz ?_; intro gb515 hg w40 hbox hb; have BK515 := am (hbox); have GW515 := am ((bs hg (hz HB.out) : w.heap.size ≤ gb515)); have GE515 := am ((bs hg (hz HB.out) : w.heap.size ≤ gb515)); replace HB := am (below_step (hz HB.out) hb); clear hb hbox hg) | ((with_reducible refine gate_callee (f := 62) rfl ?_); refine goesL_ (some 24) rfl rfl Tryd.func62 (by kernel_rfl) rfl #[.slice A0 l0.length c0, .int .i64 4] rfl lz ?_; (with_reducible refine (examboardref49_number.calls k _ _ l0 4 t516 _ ?side1 ?side2 A10.out).mono ?_); (case side1 => exact cz (Kd.C_below HR0.out HB.out)); (case side2 => exact HC0.out); rintro e w' ⟨rfl, ⟨nd, rfl⟩⟩; refine ⟨_, rfl, ?_⟩; (try (rw [drewN_self w40]; generalize hq_ : World.drewN w40 _ = w40; have n0_ : Aside0 (w40.heap[gb515]? = some (.cells #[.int .i64 0, .int .i64 0, .int .i64 0, .string (⟨#[]⟩ : ByteArray), .slice none 0 0] 43 (0, 0))) := ⟨by rw [← hq_]; exact (bz BK515.out)⟩; have n1_ : Aside0 (Below w.heap.size w w40) := ⟨by rw [← hq_]; exact (hz1 HB.out GE515.out)⟩; clear BK515 HB hq_; have BK515 := n0_; have HB := n1_; clear n0_ n1_)); obtain ⟨i041, hi041, _, hsz41, _⟩ := info_parts info5; obtain ⟨hcut41, hA41, hC41⟩ := print_take_of (P := Tryd.prog) (Value.int .u8) 0 24 5 .i64 Tryd.underlying24 hi041 hsz41 A0 c0 l0 (ji17) (of_decide_eq_true az) (of_decide_eq_true az) HC0.out; have HR517 := am (Kd.C_of_reads (h1 := fun _ => rfl) (hA41 _ (Kd.reads_of_C HR0.out))); have HC517 := am hC41; clear hA41 hC41 hi041 hsz41) | ((with_reducible refine gate_callee (f := 41) rfl ?_); refine goesL_ (some 41) rfl rfl Tryd.func41 (by kernel_rfl) rfl #[.int .u64 a2, .slice A0 (l0.take ((ji17) : Int).toNat).length c0] rfl (by (try simp only [List.map_toArray, List.map_cons, List.map_nil]); first | done | (rw [show (l0.take ((ji17) : Int).toNat).length = (ji17).toNat from (by rw [List.length_take]; have h_ : ((ji17) : Int) ≤ (l0.length : Int) := of_decide_eq_true az; omega)] <;> rfl) | (simp only [hji17]; rfl) | rfl | (simp only [List.length_drop, List.length_take]; rfl)) ?_; (with_reducible refine (examboardref11_Chain.calls k a2 _ _ (l0.take ((ji17) : Int).toNat) t518 _ ?side1 ?side2 A20.out).mono ?_); (case side1 => exact cz (Kd.C_below HR517.out HB.out)); (case side2 => exact HC517.out); rintro e w' ⟨rfl, ⟨nd, rfl⟩⟩; refine ⟨_, rfl, ?_⟩; (try (rw [drewN_self w40]; generalize hq_ : World.drewN w40 _ = w40; have n0_ : Aside0 (w40.heap[gb515]? = some (.cells #[.int .i64 0, .int .i64 0, .int .i64 0, .string (⟨#[]⟩ : ByteArray), .slice none 0 0] 43 (0, 0))) := ⟨by rw [← hq_]; exact (bz BK515.out)⟩; have n1_ : Aside0 (Below w.heap.size w w40) := ⟨by rw [← hq_]; exact (hz1 HB.out GE515.out)⟩; clear BK515 HB hq_; have BK515 := n0_; have HB := n1_; clear n0_ n1_)); obtain ⟨i042, hi042, _, hsz42, _⟩ := info_parts info5; obtain ⟨A42, hcut42, hA42, hC42⟩ := print_drop_of (P := Tryd.prog) (Value.int .u8) 0 24 5 .i64 Tryd.underlying24 hi042 hsz42 A0 c0 l0 (ji17) (of_decide_eq_true az) (of_decide_eq_true az) HC0.out; have HR519 := am (Kd.C_of_reads (h1 := fun _ => rfl) (hA42 _ (Kd.reads_of_C HR0.out))); have HC519 := am hC42; clear hA42 hC42 hi042 hsz42) | ((with_reducible refine gate_callee (f := 62) rfl ?_); refine goesL_ (some 45) rfl rfl Tryd.func62 (by kernel_rfl) rfl #[.slice A42 (l0.drop ((ji17) : Int).toNat).length (c0 - (ji17).toNat), .int .i64 8] rfl (by (try simp only [List.map_toArray, List.map_cons, List.map_nil]); first | done | (rw [show (l0.drop ((ji17) : Int).toNat).length = (l0.length - (ji17).toNat) from List.length_drop] <;> rfl) | (simp only [hji17]; rfl) | rfl | (simp only [List.length_drop, List.length_take]; rfl)) ?_; (with_reducible refine (examboardref49_number.calls k _ _ (l0.drop ((ji17) : Int).toNat) 8 t520 _ ?side1 ?side2 A23.out).mono ?_); (case side1 => exact cz (Kd.C_below HR519.out HB.out)); (case side2 => exact HC519.out); rintro e w' ⟨rfl, ⟨nd, rfl⟩⟩; refine ⟨_, rfl, ?_⟩; (try (rw [drewN_self w40]; generalize hq_ : World.drewN w40 _ = w40; have n0_ : Aside0 (w40.heap[gb515]? = some (.cells #[.int .i64 0, .int .i64 0, .int .i64 0, .string (⟨#[]⟩ : ByteArray), .slice none 0 0] 43 (0, 0))) := ⟨by rw [← hq_]; exact (bz BK515.out)⟩; have n1_ : Aside0 (Below w.heap.size w w40) := ⟨by rw [← hq_]; exact (hz1 HB.out GE515.out)⟩; clear BK515 HB hq_; have BK515 := n0_; have HB := n1_; clear n0_ n1_)); obtain ⟨i043, hi043, _, hsz43, _⟩ := info_parts info5; obtain ⟨A43, hcut43, hA43, hC43⟩ := print_mid_of (P := Tryd.prog) (Value.int .u8) 0 24 5 .i64 .i64 Tryd.underlying24 hi043 hsz43 A0 c0 l0 4 (ji17) (by omega) (by first | omega | exact of_decide_eq_true az) (of_decide_eq_true az) HC0.out; have HR521 := am (Kd.C_of_reads (h1 := fun _ => rfl) (hA43 _ (Kd.reads_of_C HR0.out))); have HC521 := am hC43; clear hA43 hC43 hi043 hsz43) | ((with_reducible refine gate_callee (f := 63) rfl ?_); refine goesL_ (some 53) rfl rfl Tryd.func63 (by kernel_rfl) rfl #[.slice A43 ((l0.take ((ji17) : Int).toNat).drop 4).length (c0 - 4)] rfl (by (try simp only [List.map_toArray, List.map_cons, List.map_nil]); first | done | (rw [show ((l0.take ((ji17) : Int).toNat).drop 4).length = ((ji17).toNat - 4) from (by rw [List.length_drop, List.length_take]; have h_ : ((ji17) : Int) ≤ (l0.length : Int) := of_decide_eq_true az; omega)] <;> rfl) | (simp only [hji17]; rfl) | rfl | (simp only [List.length_drop, List.length_take]; rfl)) ?_; (with_reducible refine (examboardref10_Decode.calls k _ _ ((l0.take ((ji17) : Int).toNat).drop 4) t522 t523 t524 t525 t526 t529 t530 _ ?side1 ?side2 A27.out).mono ?_); (case side1 => exact cz (Kd.C_below HR521.out HB.out)); (case side2 => exact HC521.out); rintro e w44 ⟨v527, rfl, ho0, hb⟩; refine ⟨_, rfl, ?_⟩; have HO528 := am (Kd.V_lower (Kd.V_mono (ok' := fun k_ => (w.heap.size ≤ k_) ∧ k_ ≠ gb515) ho0 (fun k_ hk_ => ⟨(Nat.le_trans (below_size (hz1 HB.out GE515.out)) hk_), (Kd.freshB (g := gb515) (o := .cells #[.int .i64 0, .int .i64 0, .int .i64 0, .string (⟨#[]⟩ : ByteArray), .slice none 0 0] 43 (0, 0)) (bz BK515.out) k_ hk_)⟩)) (below_size (hz1 HB.out GE515.out))); replace BK515 := am (bw BK515.out hb); replace HB := am (below_step (hz1 HB.out GE515.out) hb); (try clear hb); (try clear hk); (try clear hi); (try clear ho0)) | ((with_reducible refine gate_dst (N := 13) rfl ?_); refine box_event rfl (N := 13) rfl (cs := #[.int .i64 0, .int .i64 0, .int .i64 0, .string (⟨#[]⟩ : ByteArray), .slice none 0 0]) (t := 43) gz ?_; intro gb531 hg w45 hbox hb; replace HO528 := am (Kd.V_below (Kd.V_elderB (vz HO528.out) gb531 (Nat.le_of_eq hg.symm)) hb); have BK531 := am (hbox); have GW531 := am ((bs hg (hz1 HB.out GE515.out) : w.heap.size ≤ gb531)); have GE531 := am ((bs hg (hz1 HB.out GE515.out) : w.heap.size ≤ gb531)); replace HB := am (below_step (hz1 HB.out GE515.out) hb); have NB515_531 := am ((nl hg (bz BK515.out) : gb515 ≠ gb531)); have NB531_515 := am ((ng hg (bz BK515.out) : gb531 ≠ gb515)); replace BK515 := am (bw BK515.out hb); clear hb hbox hg; have hnb46 := NB531_515.out; have hnc46 := NB515_531.out; obtain ⟨hcz47_0, hcz47_1, hcz47_2, hcz47_3, hcz47_4⟩ := cs5 BK531.out; obtain ⟨hfz47_0, hfz47_1, hfz47_2, hfz47_3, hfz47_4⟩ := fs5 BK531.out; obtain ⟨Ao48, co48, eo48⟩ := Kd.V_slice HO528.out; subst eo48; obtain ⟨hcz49_0, hcz49_1, hcz49_2, hcz49_3, hcz49_4⟩ := cs5 BK515.out; obtain ⟨hfz49_0, hfz49_1, hfz49_2, hfz49_3, hfz49_4⟩ := fs5 BK515.out))
        refine bodyPost_ret (results_list (rs := [.cell 6 43, .tmp 7, .tmp 8, .tmp 9]) rfl (by simp) (.cell gb515 43 #[.int .i64 0, .int .i64 0, .int .i64 0, .string (⟨#[]⟩ : ByteArray), .slice none 0 0] (0, 0) _ rfl (by (with_reducible repeat (first | refine blk_drewN ?_ _ | refine blk_drew ?_ | refine blk_alloc ?_ _)); refine blk_put (cs := #[.int .i64 0, .int .i64 0, .int .i64 0, .string (⟨#[]⟩ : ByteArray), .slice none 0 0]) ?_ 4 _ rfl; (with_reducible repeat (first | refine blk_drewN ?_ _ | refine blk_drew ?_ | refine blk_alloc ?_ _)); refine blk_put (cs := #[.int .i64 0, .int .i64 0, .int .i64 0, .string (⟨#[]⟩ : ByteArray), .slice none 0 0]) ?_ 3 _ rfl; (with_reducible repeat (first | refine blk_drewN ?_ _ | refine blk_drew ?_ | refine blk_alloc ?_ _)); refine blk_put (cs := #[.int .i64 0, .int .i64 0, .int .i64 0, .string (⟨#[]⟩ : ByteArray), .slice none 0 0]) ?_ 2 _ rfl; (with_reducible repeat (first | refine blk_drewN ?_ _ | refine blk_drew ?_ | refine blk_alloc ?_ _)); refine blk_put (cs := #[.int .i64 0, .int .i64 0, .int .i64 0, .string (⟨#[]⟩ : ByteArray), .slice none 0 0]) ?_ 1 _ rfl; (with_reducible repeat (first | refine blk_drewN ?_ _ | refine blk_drew ?_ | refine blk_alloc ?_ _)); refine blk_put (cs := #[.int .i64 0, .int .i64 0, .int .i64 0, .string (⟨#[]⟩ : ByteArray), .slice none 0 0]) ?_ 0 _ rfl; (with_reducible repeat (first | refine blk_drewN ?_ _ | refine blk_drew ?_ | refine blk_alloc ?_ _)); refine blk_far ?_ NB515_531.out _; (with_reducible repeat (first | refine blk_drewN ?_ _ | refine blk_drew ?_ | refine blk_alloc ?_ _)); refine blk_far ?_ NB515_531.out _; (with_reducible repeat (first | refine blk_drewN ?_ _ | refine blk_drew ?_ | refine blk_alloc ?_ _)); refine blk_far ?_ NB515_531.out _; (with_reducible repeat (first | refine blk_drewN ?_ _ | refine blk_drew ?_ | refine blk_alloc ?_ _)); refine blk_far ?_ NB515_531.out _; (with_reducible repeat (first | refine blk_drewN ?_ _ | refine blk_drew ?_ | refine blk_alloc ?_ _)); refine blk_far ?_ NB515_531.out _; (with_reducible repeat (first | refine blk_drewN ?_ _ | refine blk_drew ?_ | refine blk_alloc ?_ _)); exact BK515.out) Tryd.underlying43 rfl (by kernel_rfl) (.tmp (.tmp (.tmp .nil))))) rfl ?_
        exact ⟨_, by first | rfl | (simp [errW_none, errW_some] <;> rfl) | (simp only [← hji17]; first | rfl | (simp [errW_none, errW_some] <;> rfl)) | (simp [*, errW_none, errW_some] <;> rfl), Kd.V_nil _ _ _ _ _, hz2 HB.out GE515.out GE531.out⟩
      ·
       rw [if_neg c28] at H
       have c28b0 : (t530 == 0) = false := beq_eq_false_iff_ne.mpr c28
       have c28b1 : (t530 != 0) = true := bne_iff_ne.mpr c28
       simp only [Option.some.injEq, Prod.mk.injEq] at H
       obtain ⟨rfl, rfl, rfl, rfl, rfl, rfl, rfl, rfl⟩ := H
       go_enter Tryd.func48, Tryd.ntmps48
       go_wp2_with (first | ((with_reducible refine gate_dst (N := 6) rfl ?_); refine box_event rfl (N := 6) rfl (cs := #[.int .i64 0, .int .i64 0, .int .i64 0, .string (⟨#[]⟩ : ByteArray), .slice none 0 0]) (t := 43) gz ?_; intro gb515 hg w50 hbox hb; have BK515 := am (hbox); have GW515 := am ((bs hg (hz HB.out) : w.heap.size ≤ gb515)); have GE515 := am ((bs hg (hz HB.out) : w.heap.size ≤ gb515)); replace HB := am (below_step (hz HB.out) hb); clear hb hbox hg) | ((with_reducible refine gate_callee (f := 62) rfl ?_); refine goesL_ (some 24) rfl rfl Tryd.func62 (by kernel_rfl) rfl #[.slice A0 l0.length c0, .int .i64 4] rfl lz ?_; (with_reducible refine (examboardref49_number.calls k _ _ l0 4 t516 _ ?side1 ?side2 A10.out).mono ?_); (case side1 => exact cz (Kd.C_below HR0.out HB.out)); (case side2 => exact HC0.out); rintro e w' ⟨rfl, ⟨nd, rfl⟩⟩; refine ⟨_, rfl, ?_⟩; (try (rw [drewN_self w50]; generalize hq_ : World.drewN w50 _ = w50; have n0_ : Aside0 (w50.heap[gb515]? = some (.cells #[.int .i64 0, .int .i64 0, .int .i64 0, .string (⟨#[]⟩ : ByteArray), .slice none 0 0] 43 (0, 0))) := ⟨by rw [← hq_]; exact (bz BK515.out)⟩; have n1_ : Aside0 (Below w.heap.size w w50) := ⟨by rw [← hq_]; exact (hz1 HB.out GE515.out)⟩; clear BK515 HB hq_; have BK515 := n0_; have HB := n1_; clear n0_ n1_)); obtain ⟨i051, hi051, _, hsz51, _⟩ := info_parts info5; obtain ⟨hcut51, hA51, hC51⟩ := print_take_of (P := Tryd.prog) (Value.int .u8) 0 24 5 .i64 Tryd.underlying24 hi051 hsz51 A0 c0 l0 (ji17) (of_decide_eq_true az) (of_decide_eq_true az) HC0.out; have HR517 := am (Kd.C_of_reads (h1 := fun _ => rfl) (hA51 _ (Kd.reads_of_C HR0.out))); have HC517 := am hC51; clear hA51 hC51 hi051 hsz51) | ((with_reducible refine gate_callee (f := 41) rfl ?_); refine goesL_ (some 41) rfl rfl Tryd.func41 (by kernel_rfl) rfl #[.int .u64 a2, .slice A0 (l0.take ((ji17) : Int).toNat).length c0] rfl (by (try simp only [List.map_toArray, List.map_cons, List.map_nil]); first | done | (rw [show (l0.take ((ji17) : Int).toNat).length = (ji17).toNat from (by rw [List.length_take]; have h_ : ((ji17) : Int) ≤ (l0.length : Int) := of_decide_eq_true az; omega)] <;> rfl) | (simp only [hji17]; rfl) | rfl | (simp only [List.length_drop, List.length_take]; rfl)) ?_; (with_reducible refine (examboardref11_Chain.calls k a2 _ _ (l0.take ((ji17) : Int).toNat) t518 _ ?side1 ?side2 A20.out).mono ?_); (case side1 => exact cz (Kd.C_below HR517.out HB.out)); (case side2 => exact HC517.out); rintro e w' ⟨rfl, ⟨nd, rfl⟩⟩; refine ⟨_, rfl, ?_⟩; (try (rw [drewN_self w50]; generalize hq_ : World.drewN w50 _ = w50; have n0_ : Aside0 (w50.heap[gb515]? = some (.cells #[.int .i64 0, .int .i64 0, .int .i64 0, .string (⟨#[]⟩ : ByteArray), .slice none 0 0] 43 (0, 0))) := ⟨by rw [← hq_]; exact (bz BK515.out)⟩; have n1_ : Aside0 (Below w.heap.size w w50) := ⟨by rw [← hq_]; exact (hz1 HB.out GE515.out)⟩; clear BK515 HB hq_; have BK515 := n0_; have HB := n1_; clear n0_ n1_)); obtain ⟨i052, hi052, _, hsz52, _⟩ := info_parts info5; obtain ⟨A52, hcut52, hA52, hC52⟩ := print_drop_of (P := Tryd.prog) (Value.int .u8) 0 24 5 .i64 Tryd.underlying24 hi052 hsz52 A0 c0 l0 (ji17) (of_decide_eq_true az) (of_decide_eq_true az) HC0.out; have HR519 := am (Kd.C_of_reads (h1 := fun _ => rfl) (hA52 _ (Kd.reads_of_C HR0.out))); have HC519 := am hC52; clear hA52 hC52 hi052 hsz52) | ((with_reducible refine gate_callee (f := 62) rfl ?_); refine goesL_ (some 45) rfl rfl Tryd.func62 (by kernel_rfl) rfl #[.slice A52 (l0.drop ((ji17) : Int).toNat).length (c0 - (ji17).toNat), .int .i64 8] rfl (by (try simp only [List.map_toArray, List.map_cons, List.map_nil]); first | done | (rw [show (l0.drop ((ji17) : Int).toNat).length = (l0.length - (ji17).toNat) from List.length_drop] <;> rfl) | (simp only [hji17]; rfl) | rfl | (simp only [List.length_drop, List.length_take]; rfl)) ?_; (with_reducible refine (examboardref49_number.calls k _ _ (l0.drop ((ji17) : Int).toNat) 8 t520 _ ?side1 ?side2 A23.out).mono ?_); (case side1 => exact cz (Kd.C_below HR519.out HB.out)); (case side2 => exact HC519.out); rintro e w' ⟨rfl, ⟨nd, rfl⟩⟩; refine ⟨_, rfl, ?_⟩; (try (rw [drewN_self w50]; generalize hq_ : World.drewN w50 _ = w50; have n0_ : Aside0 (w50.heap[gb515]? = some (.cells #[.int .i64 0, .int .i64 0, .int .i64 0, .string (⟨#[]⟩ : ByteArray), .slice none 0 0] 43 (0, 0))) := ⟨by rw [← hq_]; exact (bz BK515.out)⟩; have n1_ : Aside0 (Below w.heap.size w w50) := ⟨by rw [← hq_]; exact (hz1 HB.out GE515.out)⟩; clear BK515 HB hq_; have BK515 := n0_; have HB := n1_; clear n0_ n1_)); obtain ⟨i053, hi053, _, hsz53, _⟩ := info_parts info5; obtain ⟨A53, hcut53, hA53, hC53⟩ := print_mid_of (P := Tryd.prog) (Value.int .u8) 0 24 5 .i64 .i64 Tryd.underlying24 hi053 hsz53 A0 c0 l0 4 (ji17) (by omega) (by first | omega | exact of_decide_eq_true az) (of_decide_eq_true az) HC0.out; have HR521 := am (Kd.C_of_reads (h1 := fun _ => rfl) (hA53 _ (Kd.reads_of_C HR0.out))); have HC521 := am hC53; clear hA53 hC53 hi053 hsz53) | ((with_reducible refine gate_callee (f := 63) rfl ?_); refine goesL_ (some 53) rfl rfl Tryd.func63 (by kernel_rfl) rfl #[.slice A53 ((l0.take ((ji17) : Int).toNat).drop 4).length (c0 - 4)] rfl (by (try simp only [List.map_toArray, List.map_cons, List.map_nil]); first | done | (rw [show ((l0.take ((ji17) : Int).toNat).drop 4).length = ((ji17).toNat - 4) from (by rw [List.length_drop, List.length_take]; have h_ : ((ji17) : Int) ≤ (l0.length : Int) := of_decide_eq_true az; omega)] <;> rfl) | (simp only [hji17]; rfl) | rfl | (simp only [List.length_drop, List.length_take]; rfl)) ?_; (with_reducible refine (examboardref10_Decode.calls k _ _ ((l0.take ((ji17) : Int).toNat).drop 4) t522 t523 t524 t525 t526 t529 t530 _ ?side1 ?side2 A27.out).mono ?_); (case side1 => exact cz (Kd.C_below HR521.out HB.out)); (case side2 => exact HC521.out); rintro e w54 ⟨v527, rfl, ho0, hb⟩; refine ⟨_, rfl, ?_⟩; have HO528 := am (Kd.V_lower (Kd.V_mono (ok' := fun k_ => (w.heap.size ≤ k_) ∧ k_ ≠ gb515) ho0 (fun k_ hk_ => ⟨(Nat.le_trans (below_size (hz1 HB.out GE515.out)) hk_), (Kd.freshB (g := gb515) (o := .cells #[.int .i64 0, .int .i64 0, .int .i64 0, .string (⟨#[]⟩ : ByteArray), .slice none 0 0] 43 (0, 0)) (bz BK515.out) k_ hk_)⟩)) (below_size (hz1 HB.out GE515.out))); replace BK515 := am (bw BK515.out hb); replace HB := am (below_step (hz1 HB.out GE515.out) hb); (try clear hb); (try clear hk); (try clear hi); (try clear ho0)) | ((with_reducible refine gate_dst (N := 13) rfl ?_); refine box_event rfl (N := 13) rfl (cs := #[.int .i64 0, .int .i64 0, .int .i64 0, .string (⟨#[]⟩ : ByteArray), .slice none 0 0]) (t := 43) gz ?_; intro gb531 hg w55 hbox hb; replace HO528 := am (Kd.V_below (Kd.V_elderB (vz HO528.out) gb531 (Nat.le_of_eq hg.symm)) hb); have BK531 := am (hbox); have GW531 := am ((bs hg (hz1 HB.out GE515.out) : w.heap.size ≤ gb531)); have GE531 := am ((bs hg (hz1 HB.out GE515.out) : w.heap.size ≤ gb531)); replace HB := am (below_step (hz1 HB.out GE515.out) hb); have NB515_531 := am ((nl hg (bz BK515.out) : gb515 ≠ gb531)); have NB531_515 := am ((ng hg (bz BK515.out) : gb531 ≠ gb515)); replace BK515 := am (bw BK515.out hb); clear hb hbox hg; have hnb56 := NB531_515.out; have hnc56 := NB515_531.out; obtain ⟨hcz57_0, hcz57_1, hcz57_2, hcz57_3, hcz57_4⟩ := cs5 BK531.out; obtain ⟨hfz57_0, hfz57_1, hfz57_2, hfz57_3, hfz57_4⟩ := fs5 BK531.out; obtain ⟨Ao58, co58, eo58⟩ := Kd.V_slice HO528.out; subst eo58; obtain ⟨hcz59_0, hcz59_1, hcz59_2, hcz59_3, hcz59_4⟩ := cs5 BK515.out; obtain ⟨hfz59_0, hfz59_1, hfz59_2, hfz59_3, hfz59_4⟩ := fs5 BK515.out))
       refine bodyPost_ret (results_list (rs := [.cell 6 43, .tmp 7, .tmp 8, .tmp 9]) rfl (by simp) (.cell gb515 43 #[.int .i64 0, .int .i64 0, .int .i64 0, .string (⟨#[]⟩ : ByteArray), .slice none 0 0] (0, 0) _ rfl (by (with_reducible repeat (first | refine blk_drewN ?_ _ | refine blk_drew ?_ | refine blk_alloc ?_ _)); refine blk_put (cs := #[.int .i64 0, .int .i64 0, .int .i64 0, .string (⟨#[]⟩ : ByteArray), .slice none 0 0]) ?_ 4 _ rfl; (with_reducible repeat (first | refine blk_drewN ?_ _ | refine blk_drew ?_ | refine blk_alloc ?_ _)); refine blk_put (cs := #[.int .i64 0, .int .i64 0, .int .i64 0, .string (⟨#[]⟩ : ByteArray), .slice none 0 0]) ?_ 3 _ rfl; (with_reducible repeat (first | refine blk_drewN ?_ _ | refine blk_drew ?_ | refine blk_alloc ?_ _)); refine blk_put (cs := #[.int .i64 0, .int .i64 0, .int .i64 0, .string (⟨#[]⟩ : ByteArray), .slice none 0 0]) ?_ 2 _ rfl; (with_reducible repeat (first | refine blk_drewN ?_ _ | refine blk_drew ?_ | refine blk_alloc ?_ _)); refine blk_put (cs := #[.int .i64 0, .int .i64 0, .int .i64 0, .string (⟨#[]⟩ : ByteArray), .slice none 0 0]) ?_ 1 _ rfl; (with_reducible repeat (first | refine blk_drewN ?_ _ | refine blk_drew ?_ | refine blk_alloc ?_ _)); refine blk_put (cs := #[.int .i64 0, .int .i64 0, .int .i64 0, .string (⟨#[]⟩ : ByteArray), .slice none 0 0]) ?_ 0 _ rfl; (with_reducible repeat (first | refine blk_drewN ?_ _ | refine blk_drew ?_ | refine blk_alloc ?_ _)); refine blk_far ?_ NB515_531.out _; (with_reducible repeat (first | refine blk_drewN ?_ _ | refine blk_drew ?_ | refine blk_alloc ?_ _)); refine blk_far ?_ NB515_531.out _; (with_reducible repeat (first | refine blk_drewN ?_ _ | refine blk_drew ?_ | refine blk_alloc ?_ _)); refine blk_far ?_ NB515_531.out _; (with_reducible repeat (first | refine blk_drewN ?_ _ | refine blk_drew ?_ | refine blk_alloc ?_ _)); refine blk_far ?_ NB515_531.out _; (with_reducible repeat (first | refine blk_drewN ?_ _ | refine blk_drew ?_ | refine blk_alloc ?_ _)); refine blk_far ?_ NB515_531.out _; (with_reducible repeat (first | refine blk_drewN ?_ _ | refine blk_drew ?_ | refine blk_alloc ?_ _)); exact BK515.out) Tryd.underlying43 rfl (by kernel_rfl) (.tmp (.tmp (.tmp .nil))))) rfl ?_
       exact ⟨_, by first | rfl | (simp [errW_none, errW_some] <;> rfl) | (simp only [← hji17]; first | rfl | (simp [errW_none, errW_some] <;> rfl)) | (simp [*, errW_none, errW_some] <;> rfl), Kd.V_nil _ _ _ _ _, hz2 HB.out GE515.out GE531.out⟩
     ·
      rw [if_neg c24] at H
      have c24b0 : (t520 == t518) = false := beq_eq_false_iff_ne.mpr c24
      have c24b1 : (t520 != t518) = true := bne_iff_ne.mpr c24
      simp only [Option.some.injEq, Prod.mk.injEq] at H
      obtain ⟨rfl, rfl, rfl, rfl, rfl, rfl, rfl, rfl⟩ := H
      go_enter Tryd.func48, Tryd.ntmps48
      go_wp2_with (first | ((with_reducible refine gate_dst (N := 6) rfl ?_); refine box_event rfl (N := 6) rfl (cs := #[.int .i64 0, .int .i64 0, .int .i64 0, .string (⟨#[]⟩ : ByteArray), .slice none 0 0]) (t := 43) gz ?_; intro gb515 hg w60 hbox hb; have BK515 := am (hbox); have GW515 := am ((bs hg (hz HB.out) : w.heap.size ≤ gb515)); have GE515 := am ((bs hg (hz HB.out) : w.heap.size ≤ gb515)); replace HB := am (below_step (hz HB.out) hb); clear hb hbox hg) | ((with_reducible refine gate_callee (f := 62) rfl ?_); refine goesL_ (some 24) rfl rfl Tryd.func62 (by kernel_rfl) rfl #[.slice A0 l0.length c0, .int .i64 4] rfl lz ?_; (with_reducible refine (examboardref49_number.calls k _ _ l0 4 t516 _ ?side1 ?side2 A10.out).mono ?_); (case side1 => exact cz (Kd.C_below HR0.out HB.out)); (case side2 => exact HC0.out); rintro e w' ⟨rfl, ⟨nd, rfl⟩⟩; refine ⟨_, rfl, ?_⟩; (try (rw [drewN_self w60]; generalize hq_ : World.drewN w60 _ = w60; have n0_ : Aside0 (w60.heap[gb515]? = some (.cells #[.int .i64 0, .int .i64 0, .int .i64 0, .string (⟨#[]⟩ : ByteArray), .slice none 0 0] 43 (0, 0))) := ⟨by rw [← hq_]; exact (bz BK515.out)⟩; have n1_ : Aside0 (Below w.heap.size w w60) := ⟨by rw [← hq_]; exact (hz1 HB.out GE515.out)⟩; clear BK515 HB hq_; have BK515 := n0_; have HB := n1_; clear n0_ n1_)); obtain ⟨i061, hi061, _, hsz61, _⟩ := info_parts info5; obtain ⟨hcut61, hA61, hC61⟩ := print_take_of (P := Tryd.prog) (Value.int .u8) 0 24 5 .i64 Tryd.underlying24 hi061 hsz61 A0 c0 l0 (ji17) (of_decide_eq_true az) (of_decide_eq_true az) HC0.out; have HR517 := am (Kd.C_of_reads (h1 := fun _ => rfl) (hA61 _ (Kd.reads_of_C HR0.out))); have HC517 := am hC61; clear hA61 hC61 hi061 hsz61) | ((with_reducible refine gate_callee (f := 41) rfl ?_); refine goesL_ (some 41) rfl rfl Tryd.func41 (by kernel_rfl) rfl #[.int .u64 a2, .slice A0 (l0.take ((ji17) : Int).toNat).length c0] rfl (by (try simp only [List.map_toArray, List.map_cons, List.map_nil]); first | done | (rw [show (l0.take ((ji17) : Int).toNat).length = (ji17).toNat from (by rw [List.length_take]; have h_ : ((ji17) : Int) ≤ (l0.length : Int) := of_decide_eq_true az; omega)] <;> rfl) | (simp only [hji17]; rfl) | rfl | (simp only [List.length_drop, List.length_take]; rfl)) ?_; (with_reducible refine (examboardref11_Chain.calls k a2 _ _ (l0.take ((ji17) : Int).toNat) t518 _ ?side1 ?side2 A20.out).mono ?_); (case side1 => exact cz (Kd.C_below HR517.out HB.out)); (case side2 => exact HC517.out); rintro e w' ⟨rfl, ⟨nd, rfl⟩⟩; refine ⟨_, rfl, ?_⟩; (try (rw [drewN_self w60]; generalize hq_ : World.drewN w60 _ = w60; have n0_ : Aside0 (w60.heap[gb515]? = some (.cells #[.int .i64 0, .int .i64 0, .int .i64 0, .string (⟨#[]⟩ : ByteArray), .slice none 0 0] 43 (0, 0))) := ⟨by rw [← hq_]; exact (bz BK515.out)⟩; have n1_ : Aside0 (Below w.heap.size w w60) := ⟨by rw [← hq_]; exact (hz1 HB.out GE515.out)⟩; clear BK515 HB hq_; have BK515 := n0_; have HB := n1_; clear n0_ n1_)); obtain ⟨i062, hi062, _, hsz62, _⟩ := info_parts info5; obtain ⟨A62, hcut62, hA62, hC62⟩ := print_drop_of (P := Tryd.prog) (Value.int .u8) 0 24 5 .i64 Tryd.underlying24 hi062 hsz62 A0 c0 l0 (ji17) (of_decide_eq_true az) (of_decide_eq_true az) HC0.out; have HR519 := am (Kd.C_of_reads (h1 := fun _ => rfl) (hA62 _ (Kd.reads_of_C HR0.out))); have HC519 := am hC62; clear hA62 hC62 hi062 hsz62) | ((with_reducible refine gate_callee (f := 62) rfl ?_); refine goesL_ (some 45) rfl rfl Tryd.func62 (by kernel_rfl) rfl #[.slice A62 (l0.drop ((ji17) : Int).toNat).length (c0 - (ji17).toNat), .int .i64 8] rfl (by (try simp only [List.map_toArray, List.map_cons, List.map_nil]); first | done | (rw [show (l0.drop ((ji17) : Int).toNat).length = (l0.length - (ji17).toNat) from List.length_drop] <;> rfl) | (simp only [hji17]; rfl) | rfl | (simp only [List.length_drop, List.length_take]; rfl)) ?_; (with_reducible refine (examboardref49_number.calls k _ _ (l0.drop ((ji17) : Int).toNat) 8 t520 _ ?side1 ?side2 A23.out).mono ?_); (case side1 => exact cz (Kd.C_below HR519.out HB.out)); (case side2 => exact HC519.out); rintro e w' ⟨rfl, ⟨nd, rfl⟩⟩; refine ⟨_, rfl, ?_⟩; (try (rw [drewN_self w60]; generalize hq_ : World.drewN w60 _ = w60; have n0_ : Aside0 (w60.heap[gb515]? = some (.cells #[.int .i64 0, .int .i64 0, .int .i64 0, .string (⟨#[]⟩ : ByteArray), .slice none 0 0] 43 (0, 0))) := ⟨by rw [← hq_]; exact (bz BK515.out)⟩; have n1_ : Aside0 (Below w.heap.size w w60) := ⟨by rw [← hq_]; exact (hz1 HB.out GE515.out)⟩; clear BK515 HB hq_; have BK515 := n0_; have HB := n1_; clear n0_ n1_)); obtain ⟨hcz63_0, hcz63_1, hcz63_2, hcz63_3, hcz63_4⟩ := cs5 BK515.out; obtain ⟨hfz63_0, hfz63_1, hfz63_2, hfz63_3, hfz63_4⟩ := fs5 BK515.out))
      refine bodyPost_ret (results_list (rs := [.cell 6 43, .tmp 7, .tmp 8, .tmp 9]) rfl (by simp) (.cell gb515 43 #[.int .i64 0, .int .i64 0, .int .i64 0, .string (⟨#[]⟩ : ByteArray), .slice none 0 0] (0, 0) _ rfl (bp BK515.out) Tryd.underlying43 rfl (by kernel_rfl) (.tmp (.tmp (.tmp .nil))))) rfl ?_
      exact ⟨_, by first | rfl | (simp [errW_none, errW_some] <;> rfl) | (simp only [← hji17]; first | rfl | (simp [errW_none, errW_some] <;> rfl)) | (simp [*, errW_none, errW_some] <;> rfl), Kd.V_nil _ _ _ _ _, hz1 HB.out GE515.out⟩

/-! ### examboardref49_read: function 37 -/
def examboardref49_read.l0 : Nat → List Int → List (S43) → Int → Int → Option ((List (S43)) × Int × Int × Int)
 | 0, _, _, _, _ => none
 | k + 1, x0, x6, x7, x8 => if x7 < (x0.length : Int) then (if 0 ≤ x7 then (if x7 ≤ (x0.length : Int) then ((examboardref49_entry.f k (x0.drop (x7 : Int).toNat) (x6.length : Int) x8).bind fun bt534 => (if bt534.2.2.2.2.2.2.2 = 0 then (if x6.length < 2199023255552 then (examboardref49_read.l0 k x0 (x6 ++ [(⟨bt534.1, bt534.2.1, bt534.2.2.1, bt534.2.2.2.1, bt534.2.2.2.2.1⟩ : S43)]) (wrap64 (x7 + bt534.2.2.2.2.2.1)) bt534.2.2.2.2.2.2.1) else (none)) else (some (x6, x7, x8, bt534.2.2.2.2.2.2.2)))) else (none)) else (none)) else (some (x6, x7, x8, 0))
def examboardref49_read.f (k : Nat) (l0 : List Int) : Option ((List (S43)) × Int × Int × Int) := (examboardref11_Of.f k ([] : List Int)).bind fun t532 => (examboardref49_read.l0 k l0 ([] : List (S43)) 0 t532)
theorem examboardref49_read.mono_l : ∀ k, (∀ y0 y1 y2 y3, LeO (examboardref49_read.l0 k y0 y1 y2 y3) (examboardref49_read.l0 (k + 1) y0 y1 y2 y3))
 | 0 => fun _ _ _ _ r h => by simp [examboardref49_read.l0] at h
 | k + 1 => by
  have ih0 := examboardref49_read.mono_l k
  ·
   intro y0 y1 y2 y3
   unfold examboardref49_read.l0
   repeat' first
   | (with_reducible exact ih0 _ _ _ _)
   | (with_reducible exact examboardref11_Of.mono _ _)
   | (with_reducible exact examboardref49_entry.mono _ _ _ _)
   | (with_reducible exact LeO.refl _)
   | (with_reducible exact LeO.none _)
   | (with_reducible refine LeO.ite ?_ ?_)
   | (with_reducible refine LeO.bind ?_ (fun _ => ?_))
   | exact ih0 _ _ _ _
   | exact examboardref11_Of.mono _ _
   | exact examboardref49_entry.mono _ _ _ _
   | exact LeO.none _
   | refine LeO.ite ?_ ?_
   | refine LeO.bind ?_ (fun _ => ?_)
theorem examboardref49_read.mono : ∀ a0 k, LeO (examboardref49_read.f k a0) (examboardref49_read.f (k + 1) a0) := by
 intro a0 k
 have ih0 := examboardref49_read.mono_l k
 unfold examboardref49_read.f
 repeat' first
   | (with_reducible exact ih0 _ _ _ _)
   | (with_reducible exact examboardref11_Of.mono _ _)
   | (with_reducible exact examboardref49_entry.mono _ _ _ _)
   | (with_reducible exact LeO.refl _)
   | (with_reducible exact LeO.none _)
   | (with_reducible refine LeO.ite ?_ ?_)
   | (with_reducible refine LeO.bind ?_ (fun _ => ?_))
   | exact ih0 _ _ _ _
   | exact examboardref11_Of.mono _ _
   | exact examboardref49_entry.mono _ _ _ _
   | exact LeO.none _
   | refine LeO.ite ?_ ?_
   | refine LeO.bind ?_ (fun _ => ?_)
set_option maxHeartbeats 8000000 in
set_option maxRecDepth 100000 in
theorem examboardref49_read.calls (k : Nat) (A0 : Option Addr) (c0 : Nat) (l0 : List Int) (r1 : List (S43)) (r2 : Int) (r3 : Int) (r4 : Int) (w : World) (hr0 : Kd.C (Kd.int .u8) w A0 l0.length l0) (hc0 : l0.length ≤ c0) (h : examboardref49_read.f k l0 = some (r1, r2, r3, r4)) :
  Calls Tryd.prog 37 #[.slice A0 l0.length c0] w fun e w' => ∃ v0_ : Value, e = .returned (.tuple #[v0_, .int .i64 r2, .int .u64 r3, .int .i64 r4]) ∧ Kd.N k43 43 w' w.heap.size (fun k_ => (w.heap.size ≤ k_)) v0_ r1 ∧ Below w.heap.size w w' := by
 have hu43 := Tryd.underlying43
 have HR0 := am hr0
 have HC0 := am hc0
 clear hr0 hc0
 have HB := am (Below.refl w.heap.size w)
 have H : ((examboardref11_Of.f k ([] : List Int)).bind fun t532 => (examboardref49_read.l0 k l0 ([] : List (S43)) 0 t532)) = some (r1, r2, r3, r4) := h
 clear h
 replace H := Option.bind_eq_some_iff.mp H
 obtain ⟨t532, A20, H⟩ := H
 replace H : (examboardref49_read.l0 k l0 ([] : List (S43)) 0 t532) = some (r1, r2, r3, r4) := H
 have A2 := am A20
 clear A20
 have H' := am H
 clear H
 go_enter Tryd.func37, Tryd.ntmps37
 go_wp2_with (first | ((with_reducible refine gate_callee (f := 47) rfl ?_); refine goesL_ (some 13) rfl rfl Tryd.func47 (by kernel_rfl) rfl #[.slice none 0 0] rfl lz ?_; (refine (examboardref11_Of.calls k _ _ ([] : List Int) t532 _ ?side1 ?side2 A2.out).mono ?_); (case side1 => exact Kd.C_nil _ _); (case side2 => exact Nat.le_refl _); rintro e w' ⟨rfl, ⟨nd, rfl⟩⟩; refine ⟨_, rfl, ?_⟩))
 go_loopg [6, 7, 8] k (fun kq v6 v7 v8 w' => ∃ (x6_1 : List (S43)) (x7_1 : Int) (x8_1 : Int), v7 = .int .i64 x7_1 ∧ v8 = .int .u64 x8_1 ∧ Aside0 (examboardref49_read.l0 kq l0 x6_1 x7_1 x8_1 = some (r1, r2, r3, r4)) ∧ Aside0 (kq ≤ k) ∧ Aside0 (Kd.N k43 43 w' w.heap.size (fun k_ => (w.heap.size ≤ k_)) v6 x6_1) ∧ Aside0 (Below w.heap.size w w'))
 case atStart => exact ⟨(([] : List (S43))), (0), (t532), (by first | rfl | (simp; done) | (simp [*]; done)), (by first | rfl | (simp; done) | (simp [*]; done)), H', ⟨Nat.le_refl _⟩, ⟨by first | exact Kd.R_nil _ _ _ _ _ | exact Kd.N_nil _ _ _ _ _ | exact Kd.V_nil _ _ _ _ _ | exact Kd.Q_nil _ _ _ _ _ | exact Kd.S_nil _ _ _ _ _⟩, ⟨hz HB.out⟩⟩
 case round =>
  clear H'
  try clear p2
  obtain ⟨x6_1, x7_1, x8_1, rfl, rfl, HA, HK1, HO_6, HB⟩ := hrel
  cases gk with
  | zero => exact absurd HA.out (by simp [examboardref49_read.l0])
  | succ k1 =>
   have H := HA.out
   clear HA
   simp only [examboardref49_read.l0] at H
   by_cases c3 : x7_1 < (l0.length : Int)
   ·
    rw [if_pos c3] at H
    have c3b0 : decide (x7_1 < (l0.length : Int)) = true := decide_eq_true c3
    clear c3
    replace H := it_ H
    obtain ⟨c4, H⟩ := H
    have c4b0 := eq_true c4
    have c4b1 : decide (0 ≤ x7_1) = true := decide_eq_true c4
    clear c4
    replace H := it_ H
    obtain ⟨c5, H⟩ := H
    have c5b0 := eq_true c5
    have c5b1 : decide (x7_1 ≤ (l0.length : Int)) = true := decide_eq_true c5
    clear c5
    replace H := Option.bind_eq_some_iff.mp H
    obtain ⟨⟨t534, t535, t536, t537, t538, t541, t542, t543⟩, A60, H⟩ := H
    replace H : (if t543 = 0 then (if x6_1.length < 2199023255552 then (examboardref49_read.l0 k1 l0 (x6_1 ++ [(⟨t534, t535, t536, t537, t538⟩ : S43)]) (wrap64 (x7_1 + t541)) t542) else (none)) else (some (x6_1, x7_1, x8_1, t543))) = some (r1, r2, r3, r4) := H
    have A6 := am A60
    clear A60
    by_cases c7 : t543 = 0
    ·
     rw [if_pos c7] at H
     have c7b0 : (t543 == 0) = true := beq_iff_eq.mpr c7
     have c7b1 : (t543 != 0) = false := bne_eq_false_iff_eq.mpr c7
     clear c7
     replace H := it_ H
     obtain ⟨c8, H⟩ := H
     have LMc8 := am c8
     clear c8
     obtain ⟨y545, hy545⟩ : ∃ y_ : List (S43), y_ = (x6_1 ++ [(⟨t534, t535, t536, t537, t538⟩ : S43)]) := ⟨_, rfl⟩
     replace H : (examboardref49_read.l0 k1 l0 y545 (wrap64 (x7_1 + t541)) t542) = some (r1, r2, r3, r4) := by first | (rw [hy545]; with_reducible exact H) | (have H2_ := (Option.bind_some _ _).symm.trans H; rw [hy545]; with_reducible exact H2_) | (have H2_ := (Option.bind_some _ _).symm.trans H; with_reducible exact H2_) | with_reducible exact H | (rw [hy545]; exact H) | exact H
     have Ny545 := am hy545
     clear hy545
     have H' := am H
     clear H
     obtain ⟨i09, hi09, _, hsz9, _⟩ := info_parts info5
     obtain ⟨A9, hcut9, hA9, hC9⟩ := print_drop_of (P := Tryd.prog) (Value.int .u8) 0 24 5 .i64 Tryd.underlying24 hi09 hsz9 A0 c0 l0 x7_1 (of_decide_eq_true az) (of_decide_eq_true az) HC0.out
     have HR533 := am (Kd.C_of_reads (h1 := fun _ => rfl) (hA9 _ (Kd.reads_of_C HR0.out)))
     have HC533 := am hC9
     clear hA9 hC9 hi09 hsz9
     obtain ⟨Ao10, co10, eo10⟩ := Kd.N_slice HO_6.out
     subst eo10
     go_wp2_with (first | ((with_reducible refine gate_callee (f := 48) rfl ?_); refine goesL_ (some 25) rfl rfl Tryd.func48 (by kernel_rfl) rfl #[.slice A9 (l0.drop (x7_1 : Int).toNat).length (c0 - x7_1.toNat), .int .i64 (x6_1.length : Int), .int .u64 x8_1] rfl (by (try simp only [List.map_toArray, List.map_cons, List.map_nil]); first | done | (rw [show (l0.drop (x7_1 : Int).toNat).length = (l0.length - x7_1.toNat) from List.length_drop] <;> rfl) | rfl | (simp only [List.length_drop, List.length_take]; rfl)) ?_; (with_reducible refine (examboardref49_entry.calls k1 _ _ (l0.drop (x7_1 : Int).toNat) (x6_1.length : Int) x8_1 t534 t535 t536 t537 t538 t541 t542 t543 _ ?side1 ?side2 A6.out).mono ?_); (case side1 => exact cz (Kd.C_below HR533.out HB.out)); (case side2 => exact HC533.out); rintro e w11 ⟨v539, rfl, ho0, hb⟩; refine ⟨_, rfl, ?_⟩; have HO540 := am (Kd.V_lower (Kd.V_mono (ok' := fun k_ => (w.heap.size ≤ k_) ∧ some k_ ≠ (.slice Ao10 x6_1.length co10 : Value).ownBlock) ho0 (fun k_ hk_ => ⟨(Nat.le_trans (below_size (hz HB.out)) hk_), (Kd.fresh' (Kd.N_lt (nz HO_6.out)) k_ hk_)⟩)) (below_size (hz HB.out))); replace HO_6 := am (Kd.N_below (nz HO_6.out) hb); replace HB := am (below_step (hz HB.out) hb); (try clear hb); (try clear hk); (try clear hi); (try clear ho0)) | ((with_reducible refine gate_dst (N := 9) rfl ?_); refine box_event rfl (N := 9) rfl (cs := #[.int .i64 0, .int .i64 0, .int .i64 0, .string (⟨#[]⟩ : ByteArray), .slice none 0 0]) (t := 43) gz ?_; intro gb544 hg w12 hbox hb; replace HO_6 := am (Kd.N_below (Kd.N_elderB (nz HO_6.out) gb544 (Nat.le_of_eq hg.symm)) hb); replace HO540 := am (Kd.V_below (Kd.V_elderB (vz HO540.out) gb544 (Nat.le_of_eq hg.symm)) hb); have BK544 := am (hbox); have GW544 := am ((bs hg (hz HB.out) : w.heap.size ≤ gb544)); have GE544 := am ((bs hg (hz HB.out) : w.heap.size ≤ gb544)); replace HB := am (below_step (hz HB.out) hb); clear hb hbox hg; obtain ⟨hcz13_0, hcz13_1, hcz13_2, hcz13_3, hcz13_4⟩ := cs5 BK544.out; obtain ⟨hfz13_0, hfz13_1, hfz13_2, hfz13_3, hfz13_4⟩ := fs5 BK544.out; obtain ⟨Ao14, co14, eo14⟩ := Kd.V_slice HO540.out; subst eo14) | ((with_reducible refine gate_store (t := 43) (p := 9) rfl ?_); refine store_event (t := 43) (p := 9) (v := ?vo_w15) (w1 := (((((w12.setCell ⟨gb544, 0, none⟩ (.int .i64 t534)).setCell ⟨gb544, 1, none⟩ (.int .i64 t535)).setCell ⟨gb544, 2, none⟩ (.int .i64 t536)).setCell ⟨gb544, 3, none⟩ (.string t537)).setCell ⟨gb544, 4, none⟩ (.slice Ao14 t538.length co14))) ?hg ?ho ?hn ?hr ?_; (case ho => rfl); (case hg => rfl); (case hn => rfl); (case hr => exact gz); intro w15 hw; replace HO_6 : Aside0 (Kd.N k43 43 w15 w.heap.size (fun k_ => (w.heap.size ≤ k_) ∧ k_ ≠ gb544) (.slice Ao10 x6_1.length co10) x6_1) := ⟨(by rw [hw]; exact (nz (Kd.N_mono (Kd.N_far (p := ⟨gb544, 4, none⟩) (Kd.N_far (p := ⟨gb544, 3, none⟩) (Kd.N_far (p := ⟨gb544, 2, none⟩) (Kd.N_far (p := ⟨gb544, 1, none⟩) (Kd.N_far (p := ⟨gb544, 0, none⟩) (Kd.N_mono HO_6.out (fun k_ hk => (⟨hk, hk.2⟩ : _ ∧ k_ ≠ gb544))) (fun _ hk => hk.2) (.int .i64 t534)) (fun _ hk => hk.2) (.int .i64 t535)) (fun _ hk => hk.2) (.int .i64 t536)) (fun _ hk => hk.2) (.string t537)) (fun _ hk => hk.2) (.slice Ao14 t538.length co14)) (fun _ hk => ⟨hk.1.1, hk.1.2⟩))))⟩; replace HO540 : Aside0 (Kd.V k43 43 w15 w.heap.size (fun k_ => (w.heap.size ≤ k_) ∧ some k_ ≠ (.slice Ao10 x6_1.length co10 : Value).ownBlock ∧ k_ ≠ gb544) (.slice Ao14 t538.length co14) t538) := ⟨(by rw [hw]; exact (vz (Kd.V_mono (Kd.V_far (p := ⟨gb544, 4, none⟩) (Kd.V_far (p := ⟨gb544, 3, none⟩) (Kd.V_far (p := ⟨gb544, 2, none⟩) (Kd.V_far (p := ⟨gb544, 1, none⟩) (Kd.V_far (p := ⟨gb544, 0, none⟩) (Kd.V_mono HO540.out (fun k_ hk => (⟨hk, hk.2⟩ : _ ∧ k_ ≠ gb544))) (fun _ hk => hk.2) (.int .i64 t534)) (fun _ hk => hk.2) (.int .i64 t535)) (fun _ hk => hk.2) (.int .i64 t536)) (fun _ hk => hk.2) (.string t537)) (fun _ hk => hk.2) (.slice Ao14 t538.length co14)) (fun _ hk => ⟨hk.1.1.1, ⟨hk.1.1.2, hk.1.2⟩⟩))))⟩; replace BK544 : Aside0 (w15.heap[gb544]? = some (.cells #[.int .i64 t534, .int .i64 t535, .int .i64 t536, .string t537, .slice Ao14 t538.length co14] 43 (0, 0))) := ⟨(by rw [hw]; exact (bp BK544.out))⟩; replace HB : Aside0 (Below w.heap.size w w15) := ⟨(by rw [hw]; exact (hz1 HB.out GE544.out))⟩; clear hw; obtain ⟨hcz16_0, hcz16_1, hcz16_2, hcz16_3, hcz16_4⟩ := cs5 BK544.out; obtain ⟨hfz16_0, hfz16_1, hfz16_2, hfz16_3, hfz16_4⟩ := fs5 BK544.out) | ((with_reducible refine gate_builtin (b := .append) (xs := #[.tmp 36, .tmp 38]) rfl ?_); at_builtin; refine Kd.N_append k43 (w0 := w) w.heap.size rfl (.tmp 36) (.tmp 38) 22 43 (.agg #[(.int .i64 0), (.int .i64 0), (.int .i64 0), (.string ⟨#[]⟩), (.slice none 0 0)]) 64 rfl Tryd.underlying22 info43 rfl (by decide) (by omega) (.slice Ao10 x6_1.length co10) x6_1 (⟨t534, t535, t536, t537, t538⟩ : S43) [.int .i64 t534, .int .i64 t535, .int .i64 t536, .string t537, .slice Ao14 t538.length co14] (fun k_ => (w.heap.size ≤ k_) ∧ k_ ≠ gb544) (fun k_ => ((fun k_ => (w.heap.size ≤ k_) ∧ k_ ≠ gb544)) k_ ∧ some k_ ≠ (.slice Ao10 x6_1.length co10 : Value).ownBlock) rfl rfl ?aP (fun _ hk => hk) ?aF ?aO ?aB ?aS ?aL ?_; (case aP => exact (k43_mkF _ _ (⟨t534, t535, t536, t537, t538⟩ : S43) (Kd.V_reads' (Kd.V_mono (ok' := (fun k_ => ((fun k_ => (w.heap.size ≤ k_) ∧ k_ ≠ gb544)) k_ ∧ some k_ ≠ (.slice Ao10 x6_1.length co10 : Value).ownBlock)) (HO540.out) (fun k_ hk => ⟨⟨hk.1, hk.2.2⟩, hk.2.1⟩))).2.1 (Kd.V_F (vz (Kd.V_mono (ok' := (fun k_ => ((fun k_ => (w.heap.size ≤ k_) ∧ k_ ≠ gb544)) k_ ∧ some k_ ≠ (.slice Ao10 x6_1.length co10 : Value).ownBlock)) (HO540.out) (fun k_ hk => ⟨⟨hk.1, hk.2.2⟩, hk.2.1⟩)))))); (case aB => exact (hz1 HB.out GE544.out)); (case aF => exact (fun k_ hk => ⟨(Nat.le_trans (below_size (hz1 HB.out GE544.out)) hk), Kd.freshB (g := gb544) (o := .cells #[.int .i64 t534, .int .i64 t535, .int .i64 t536, .string t537, .slice Ao14 t538.length co14] 43 (0, 0)) (bz BK544.out) k_ hk⟩)); (case aO => exact (nz HO_6.out)); (case aS => exact (below_size (hz1 HB.out GE544.out))); (case aL => have := LMc8.out; omega); intro v546 w17 ho hb hg hat; rw [← Ny545.out] at ho; replace HO540 := am (Kd.V_afterv (ok := (fun k_ => (w.heap.size ≤ k_) ∧ k_ ≠ gb544)) (vz (Kd.V_mono HO540.out (fun _ hk => ⟨⟨hk.1, hk.2.2⟩, hk.2.1⟩))) hg hat); replace BK544 := am (blk_grown (bz BK544.out) hg (Kd.N_away HO_6.out (fun _ hk => hk.2))); replace HB := am (hb); have HO547 := am (ho); clear HO_6; clear ho hb hg hat))
     go_roundg k1
     case measure => have := HK1.out; omega
     case rel => exact ⟨(y545), (wrap64 (x7_1 + t541)), (t542), (by first | rfl | (simp; done) | (simp [*]; done)), (by first | rfl | (simp; done) | (simp [*]; done)), H', ⟨by have := HK1.out; omega⟩, ⟨by (with_reducible repeat (first | apply Kd.N_alloc | apply Kd.N_drewN | apply Kd.N_drew)); exact Kd.N_mono HO547.out (fun _ hk => hk.1)⟩, ⟨hz1 HB.out GE544.out⟩⟩
    ·
     rw [if_neg c7] at H
     have c7b0 : (t543 == 0) = false := beq_eq_false_iff_ne.mpr c7
     have c7b1 : (t543 != 0) = true := bne_iff_ne.mpr c7
     simp only [Option.some.injEq, Prod.mk.injEq] at H
     obtain ⟨rfl, rfl, rfl, rfl⟩ := H
     obtain ⟨i018, hi018, _, hsz18, _⟩ := info_parts info5
     obtain ⟨A18, hcut18, hA18, hC18⟩ := print_drop_of (P := Tryd.prog) (Value.int .u8) 0 24 5 .i64 Tryd.underlying24 hi018 hsz18 A0 c0 l0 x7_1 (of_decide_eq_true az) (of_decide_eq_true az) HC0.out
     have HR533 := am (Kd.C_of_reads (h1 := fun _ => rfl) (hA18 _ (Kd.reads_of_C HR0.out)))
     have HC533 := am hC18
     clear hA18 hC18 hi018 hsz18
     obtain ⟨Ao19, co19, eo19⟩ := Kd.N_slice HO_6.out
     subst eo19
     go_wp2_with (first | ((with_reducible refine gate_callee (f := 48) rfl ?_); refine goesL_ (some 25) rfl rfl Tryd.func48 (by kernel_rfl) rfl #[.slice A18 (l0.drop (x7_1 : Int).toNat).length (c0 - x7_1.toNat), .int .i64 (x6_1.length : Int), .int .u64 x8_1] rfl (by (try simp only [List.map_toArray, List.map_cons, List.map_nil]); first | done | (rw [show (l0.drop (x7_1 : Int).toNat).length = (l0.length - x7_1.toNat) from List.length_drop] <;> rfl) | rfl | (simp only [List.length_drop, List.length_take]; rfl)) ?_; (with_reducible refine (examboardref49_entry.calls k1 _ _ (l0.drop (x7_1 : Int).toNat) (x6_1.length : Int) x8_1 t534 t535 t536 t537 t538 t541 t542 t543 _ ?side1 ?side2 A6.out).mono ?_); (case side1 => exact cz (Kd.C_below HR533.out HB.out)); (case side2 => exact HC533.out); rintro e w20 ⟨v539, rfl, ho0, hb⟩; refine ⟨_, rfl, ?_⟩; have HO540 := am (Kd.V_lower (Kd.V_mono (ok' := fun k_ => (w.heap.size ≤ k_) ∧ some k_ ≠ (.slice Ao19 x6_1.length co19 : Value).ownBlock) ho0 (fun k_ hk_ => ⟨(Nat.le_trans (below_size (hz HB.out)) hk_), (Kd.fresh' (Kd.N_lt (nz HO_6.out)) k_ hk_)⟩)) (below_size (hz HB.out))); replace HO_6 := am (Kd.N_below (nz HO_6.out) hb); replace HB := am (below_step (hz HB.out) hb); (try clear hb); (try clear hk); (try clear hi); (try clear ho0)) | ((with_reducible refine gate_dst (N := 9) rfl ?_); refine box_event rfl (N := 9) rfl (cs := #[.int .i64 0, .int .i64 0, .int .i64 0, .string (⟨#[]⟩ : ByteArray), .slice none 0 0]) (t := 43) gz ?_; intro gb544 hg w21 hbox hb; replace HO_6 := am (Kd.N_below (Kd.N_elderB (nz HO_6.out) gb544 (Nat.le_of_eq hg.symm)) hb); replace HO540 := am (Kd.V_below (Kd.V_elderB (vz HO540.out) gb544 (Nat.le_of_eq hg.symm)) hb); have BK544 := am (hbox); have GW544 := am ((bs hg (hz HB.out) : w.heap.size ≤ gb544)); have GE544 := am ((bs hg (hz HB.out) : w.heap.size ≤ gb544)); replace HB := am (below_step (hz HB.out) hb); clear hb hbox hg; obtain ⟨hcz22_0, hcz22_1, hcz22_2, hcz22_3, hcz22_4⟩ := cs5 BK544.out; obtain ⟨hfz22_0, hfz22_1, hfz22_2, hfz22_3, hfz22_4⟩ := fs5 BK544.out; obtain ⟨Ao23, co23, eo23⟩ := Kd.V_slice HO540.out; subst eo23))
     refine bodyPost_ret (results_list (rs := [.tmp 2, .tmp 3, .tmp 4, .tmp 5]) rfl (by simp) (.tmp (.tmp (.tmp (.tmp .nil))))) rfl ?_
     exact ⟨_, by first | rfl | (simp [errW_none, errW_some] <;> rfl) | (simp [*, errW_none, errW_some] <;> rfl), by (with_reducible repeat (first | apply Kd.N_alloc | apply Kd.N_drewN | apply Kd.N_drew)); exact Kd.N_mono (Kd.N_far (p := ⟨gb544, 4, none⟩) (Kd.N_far (p := ⟨gb544, 3, none⟩) (Kd.N_far (p := ⟨gb544, 2, none⟩) (Kd.N_far (p := ⟨gb544, 1, none⟩) (Kd.N_far (p := ⟨gb544, 0, none⟩) (Kd.N_mono HO_6.out (fun k_ hk => (⟨hk, hk.2⟩ : _ ∧ k_ ≠ gb544))) (fun _ hk => hk.2) (.int .i64 t534)) (fun _ hk => hk.2) (.int .i64 t535)) (fun _ hk => hk.2) (.int .i64 t536)) (fun _ hk => hk.2) (.string t537)) (fun _ hk => hk.2) (.slice Ao23 t538.length co23)) (fun _ hk => hk.1.1), hz1 HB.out GE544.out⟩
   ·
    rw [if_neg c3] at H
    have c3b0 : decide (x7_1 < (l0.length : Int)) = false := decide_eq_false c3
    clear c3
    simp only [Option.some.injEq, Prod.mk.injEq] at H
    obtain ⟨rfl, rfl, rfl, rfl⟩ := H
    go_wp2
    refine bodyPost_ret (results_list (rs := [.tmp 2, .tmp 3, .tmp 4, .tmp 5]) rfl (by simp) (.tmp (.tmp (.tmp (.tmp .nil))))) rfl ?_
    exact ⟨_, by first | rfl | (simp [errW_none, errW_some] <;> rfl) | (simp [*, errW_none, errW_some] <;> rfl), by (with_reducible repeat (first | apply Kd.N_alloc | apply Kd.N_drewN | apply Kd.N_drew)); exact HO_6.out, hz HB.out⟩

/-! ### examboardref49_copied: function 40 -/
def examboardref49_copied.l0 : Nat → List Int → List Int → Int → Int → Option (List Int)
 | 0, _, _, _, _ => none
 | k + 1, x3, x6, x7, x8 => if x8 < x7 then (if 0 ≤ x8 then (if x8 < (x6.length : Int) then (if x3.length < 140737488355328 then (examboardref49_copied.l0 k (x3 ++ [rd x6 x8]) x6 x7 (wrap64 (x8 + 1))) else (none)) else (none)) else (none)) else (some x3)
def examboardref49_copied.f (k : Nat) (l0 : List Int) : Option (List Int) := examboardref49_copied.l0 k ([] : List Int) l0 (l0.length : Int) 0
theorem examboardref49_copied.mono_l : ∀ k, (∀ y0 y1 y2 y3, LeO (examboardref49_copied.l0 k y0 y1 y2 y3) (examboardref49_copied.l0 (k + 1) y0 y1 y2 y3))
 | 0 => fun _ _ _ _ r h => by simp [examboardref49_copied.l0] at h
 | k + 1 => by
  have ih0 := examboardref49_copied.mono_l k
  ·
   intro y0 y1 y2 y3
   unfold examboardref49_copied.l0
   repeat' first
   | (with_reducible exact ih0 _ _ _ _)
   | (with_reducible exact LeO.refl _)
   | (with_reducible exact LeO.none _)
   | (with_reducible refine LeO.ite ?_ ?_)
   | (with_reducible refine LeO.bind ?_ (fun _ => ?_))
   | exact ih0 _ _ _ _
   | exact LeO.none _
   | refine LeO.ite ?_ ?_
   | refine LeO.bind ?_ (fun _ => ?_)
theorem examboardref49_copied.mono : ∀ a0 k, LeO (examboardref49_copied.f k a0) (examboardref49_copied.f (k + 1) a0) := by
 intro a0 k
 have ih0 := examboardref49_copied.mono_l k
 unfold examboardref49_copied.f
 repeat' first
   | (with_reducible exact ih0 _ _ _ _)
   | (with_reducible exact LeO.refl _)
   | (with_reducible exact LeO.none _)
   | (with_reducible refine LeO.ite ?_ ?_)
   | (with_reducible refine LeO.bind ?_ (fun _ => ?_))
   | exact ih0 _ _ _ _
   | exact LeO.none _
   | refine LeO.ite ?_ ?_
   | refine LeO.bind ?_ (fun _ => ?_)
set_option maxHeartbeats 8000000 in
set_option maxRecDepth 100000 in
theorem examboardref49_copied.calls (k : Nat) (A0 : Option Addr) (c0 : Nat) (l0 : List Int) (r : List Int) (w : World) (hr0 : Kd.C (Kd.int .u8) w A0 l0.length l0) (hc0 : l0.length ≤ c0) (h : examboardref49_copied.f k l0 = some r) :
  Calls Tryd.prog 40 #[.slice A0 l0.length c0] w fun e w' => ∃ v0_ : Value, e = .returned (v0_) ∧ Kd.R (Kd.int .u8) 5 w' w.heap.size (fun _ => True) v0_ r ∧ Below w.heap.size w w' := by
 have HR0 := am hr0
 have HC0 := am hc0
 clear hr0 hc0
 have HB := am (Below.refl w.heap.size w)
 have H : (examboardref49_copied.l0 k ([] : List Int) l0 (l0.length : Int) 0) = some r := h
 clear h
 have H' := am H
 clear H
 go_enter Tryd.func40, Tryd.ntmps40
 go_wp2
 go_loopg [3, 8] k (fun kq v3 v8 w' => ∃ (x3_1 : List Int) (x8_1 : Int), v8 = .int .i64 x8_1 ∧ Aside0 (examboardref49_copied.l0 kq x3_1 l0 (l0.length : Int) x8_1 = some r) ∧ Aside0 (kq ≤ k) ∧ Aside0 (Kd.R (Kd.int .u8) 5 w' w.heap.size (fun _ => True) v3 x3_1) ∧ Aside0 (Below w.heap.size w w'))
 case atStart => exact ⟨(([] : List Int)), (0), (by first | rfl | (simp; done) | (simp [*]; done)), H', ⟨Nat.le_refl _⟩, ⟨by first | exact Kd.R_nil _ _ _ _ _ | exact Kd.N_nil _ _ _ _ _ | exact Kd.V_nil _ _ _ _ _ | exact Kd.Q_nil _ _ _ _ _ | exact Kd.S_nil _ _ _ _ _⟩, ⟨hz HB.out⟩⟩
 case round =>
  clear H'
  obtain ⟨x3_1, x8_1, rfl, HA, HK1, HO_3, HB⟩ := hrel
  cases gk with
  | zero => exact absurd HA.out (by simp [examboardref49_copied.l0])
  | succ k1 =>
   have H := HA.out
   clear HA
   simp only [examboardref49_copied.l0] at H
   by_cases c2 : x8_1 < (l0.length : Int)
   ·
    rw [if_pos c2] at H
    have c2b0 : decide (x8_1 < (l0.length : Int)) = true := decide_eq_true c2
    clear c2
    replace H := it_ H
    obtain ⟨c3, H⟩ := H
    have c3b0 : decide (0 ≤ x8_1) = true := decide_eq_true c3
    clear c3
    replace H := it_ H
    obtain ⟨c4, H⟩ := H
    have c4b0 : decide (x8_1 < (l0.length : Int)) = true := decide_eq_true c4
    clear c4
    replace H := it_ H
    obtain ⟨c5, H⟩ := H
    have LMc5 := am c5
    clear c5
    obtain ⟨y596, hy596⟩ : ∃ y_ : List Int, y_ = (x3_1 ++ [rd l0 x8_1]) := ⟨_, rfl⟩
    replace H : (examboardref49_copied.l0 k1 y596 l0 (l0.length : Int) (wrap64 (x8_1 + 1))) = some r := by first | (rw [hy596]; with_reducible exact H) | (have H2_ := (Option.bind_some _ _).symm.trans H; rw [hy596]; with_reducible exact H2_) | (have H2_ := (Option.bind_some _ _).symm.trans H; with_reducible exact H2_) | with_reducible exact H | (rw [hy596]; exact H) | exact H
    have Ny596 := am hy596
    clear hy596
    have H' := am H
    clear H
    have p595 : 0 ≤ (x8_1 : Int) := of_decide_eq_true az
    have q595 : x8_1 < (l0.length : Int) := of_decide_eq_true az
    obtain ⟨ad595, e595, hx595_0⟩ := Kd.at_int HR0.out x8_1 p595 q595
    cases e595
    replace hx595_0 := (HB.out.cell (World.block_lt_of_cell? w _ hx595_0)).trans hx595_0
    replace p595 := eq_true p595
    replace q595 := eq_true q595
    go_wp2_with (first | ((with_reducible refine gate_builtin (b := .append) (xs := #[.tmp 12, .tmp 14]) rfl ?_); at_builtin; refine Kd.R_append (Kd.int .u8) (w0 := w) w.heap.size rfl (.tmp 12) (.tmp 14) 24 5 (.int .u8 0) 1 rfl Tryd.underlying24 info5 rfl (by decide) (by omega) u3 x3_1 (rd l0 x8_1) [.int .u8 (rd l0 x8_1)] (fun _ => True) (fun _ => False) rfl rfl ?aP (fun _ hk => hk.elim) ?aF ?aO ?aB ?aS ?aL ?_; (case aP => exact rfl); (case aB => exact (hz HB.out)); (case aF => exact (fun _ _ => trivial)); (case aO => exact (rz HO_3.out)); (case aS => exact (below_size (hz HB.out))); (case aL => have := LMc5.out; omega); intro v597 w6 ho hb hg hat; rw [← Ny596.out] at ho; replace HB := am (hb); have HO598 := am (ho); clear HO_3; clear ho hb hg hat))
    go_roundg k1
    case measure => have := HK1.out; omega
    case rel => exact ⟨(y596), (wrap64 (x8_1 + 1)), (by first | rfl | (simp; done) | (simp [*]; done)), H', ⟨by have := HK1.out; omega⟩, ⟨by (with_reducible repeat (first | apply Kd.R_alloc | apply Kd.R_drewN | apply Kd.R_drew)); exact HO598.out⟩, ⟨hz HB.out⟩⟩
   ·
    rw [if_neg c2] at H
    have c2b0 : decide (x8_1 < (l0.length : Int)) = false := decide_eq_false c2
    clear c2
    obtain rfl := Option.some.inj H
    go_wp2
    go_ret
    exact ⟨_, by first | rfl | (simp [errW_none, errW_some] <;> rfl) | (simp [*, errW_none, errW_some] <;> rfl), by (with_reducible repeat (first | apply Kd.R_alloc | apply Kd.R_drewN | apply Kd.R_drew)); exact HO_3.out, hz HB.out⟩

/-! ### examboardref49_Read: function 26 -/
def examboardref49_Read.f (k : Nat) (l0 : List Int) : Option ((List (S43)) × Int × Int) := (examboardref49_read.f k l0).bind fun bt760 => (some (bt760.1, bt760.2.1, bt760.2.2.2))
theorem examboardref49_Read.mono : ∀ a0 k, LeO (examboardref49_Read.f k a0) (examboardref49_Read.f (k + 1) a0) := by
 intro a0 k
 unfold examboardref49_Read.f
 repeat' first
   | (with_reducible exact examboardref49_read.mono _ _)
   | (with_reducible exact LeO.refl _)
   | (with_reducible exact LeO.none _)
   | (with_reducible refine LeO.ite ?_ ?_)
   | (with_reducible refine LeO.bind ?_ (fun _ => ?_))
   | exact examboardref49_read.mono _ _
   | exact LeO.none _
   | refine LeO.ite ?_ ?_
   | refine LeO.bind ?_ (fun _ => ?_)
set_option maxHeartbeats 8000000 in
set_option maxRecDepth 100000 in
theorem examboardref49_Read.calls (k : Nat) (A0 : Option Addr) (c0 : Nat) (l0 : List Int) (r1 : List (S43)) (r2 : Int) (r3 : Int) (w : World) (hr0 : Kd.C (Kd.int .u8) w A0 l0.length l0) (hc0 : l0.length ≤ c0) (h : examboardref49_Read.f k l0 = some (r1, r2, r3)) :
  Calls Tryd.prog 26 #[.slice A0 l0.length c0] w fun e w' => ∃ v0_ : Value, e = .returned (.tuple #[v0_, .int .i64 r2, .int .i64 r3]) ∧ Kd.N k43 43 w' w.heap.size (fun k_ => (w.heap.size ≤ k_)) v0_ r1 ∧ Below w.heap.size w w' := by
 have HR0 := am hr0
 have HC0 := am hc0
 clear hr0 hc0
 have HB := am (Below.refl w.heap.size w)
 have H : ((examboardref49_read.f k l0).bind fun bt760 => (some (bt760.1, bt760.2.1, bt760.2.2.2))) = some (r1, r2, r3) := h
 clear h
 replace H := Option.bind_eq_some_iff.mp H
 obtain ⟨⟨t760, t763, t764, t765⟩, A20, H⟩ := H
 replace H : (some (t760, t763, t765)) = some (r1, r2, r3) := H
 have A2 := am A20
 clear A20
 simp only [Option.some.injEq, Prod.mk.injEq] at H
 obtain ⟨rfl, rfl, rfl⟩ := H
 go_enter Tryd.func26, Tryd.ntmps26
 go_wp2_with (first | ((with_reducible refine gate_callee (f := 37) rfl ?_); refine goesL_ (some 11) rfl rfl Tryd.func37 (by kernel_rfl) rfl #[.slice A0 l0.length c0] rfl lz ?_; (with_reducible refine (examboardref49_read.calls k _ _ l0 t760 t763 t764 t765 _ ?side1 ?side2 A2.out).mono ?_); (case side1 => repeat (first | exact HR0.out | (with_reducible refine Kd.C_alloc ?_ _) | (with_reducible refine Kd.C_drewN ?_ _) | (with_reducible refine Kd.C_drew ?_))); (case side2 => exact HC0.out); rintro e w3 ⟨v761, rfl, ho0, hb⟩; refine ⟨_, rfl, ?_⟩; have HO762 := am (Kd.N_lower (Kd.N_mono (ok' := fun k_ => (w.heap.size ≤ k_)) ho0 (fun k_ hk_ => (Nat.le_trans (below_size (hz HB.out)) hk_))) (below_size (hz HB.out))); replace HB := am (below_step (hz HB.out) hb); (try clear hb); (try clear hk); (try clear hi); (try clear ho0)))
 go_ret3
 exact ⟨_, by first | rfl | (simp [errW_none, errW_some] <;> rfl) | (simp [*, errW_none, errW_some] <;> rfl), by (with_reducible repeat (first | apply Kd.N_alloc | apply Kd.N_drewN | apply Kd.N_drew)); exact HO762.out, hz HB.out⟩

/-! ### examboardref49_Last: function 27 -/
def examboardref49_Last.f (k : Nat) (l0 : List Int) : Option (Int × Int) := (examboardref49_read.f k l0).bind fun bt766 => (if bt766.2.2.2 = 0 then (some (bt766.2.2.1, 0)) else (some (0, bt766.2.2.2)))
theorem examboardref49_Last.mono : ∀ a0 k, LeO (examboardref49_Last.f k a0) (examboardref49_Last.f (k + 1) a0) := by
 intro a0 k
 unfold examboardref49_Last.f
 repeat' first
   | (with_reducible exact examboardref49_read.mono _ _)
   | (with_reducible exact LeO.refl _)
   | (with_reducible exact LeO.none _)
   | (with_reducible refine LeO.ite ?_ ?_)
   | (with_reducible refine LeO.bind ?_ (fun _ => ?_))
   | exact examboardref49_read.mono _ _
   | exact LeO.none _
   | refine LeO.ite ?_ ?_
   | refine LeO.bind ?_ (fun _ => ?_)
set_option maxHeartbeats 8000000 in
set_option maxRecDepth 100000 in
theorem examboardref49_Last.calls (k : Nat) (A0 : Option Addr) (c0 : Nat) (l0 : List Int) (r1 : Int) (r2 : Int) (w : World) (hr0 : Kd.C (Kd.int .u8) w A0 l0.length l0) (hc0 : l0.length ≤ c0) (h : examboardref49_Last.f k l0 = some (r1, r2)) :
  Calls Tryd.prog 27 #[.slice A0 l0.length c0] w fun e w' => e = .returned (.tuple #[.int .u64 r1, .int .i64 r2]) ∧ Below w.heap.size w w' := by
 have HR0 := am hr0
 have HC0 := am hc0
 clear hr0 hc0
 have HB := am (Below.refl w.heap.size w)
 have H : ((examboardref49_read.f k l0).bind fun bt766 => (if bt766.2.2.2 = 0 then (some (bt766.2.2.1, 0)) else (some (0, bt766.2.2.2)))) = some (r1, r2) := h
 clear h
 replace H := Option.bind_eq_some_iff.mp H
 obtain ⟨⟨t766, t769, t770, t771⟩, A20, H⟩ := H
 replace H : (if t771 = 0 then (some (t770, 0)) else (some (0, t771))) = some (r1, r2) := H
 have A2 := am A20
 clear A20
 by_cases c3 : t771 = 0
 ·
  rw [if_pos c3] at H
  have c3b0 : (t771 == 0) = true := beq_iff_eq.mpr c3
  have c3b1 : (t771 != 0) = false := bne_eq_false_iff_eq.mpr c3
  clear c3
  simp only [Option.some.injEq, Prod.mk.injEq] at H
  obtain ⟨rfl, rfl⟩ := H
  go_enter Tryd.func27, Tryd.ntmps27
  go_wp2_with (first | ((with_reducible refine gate_callee (f := 37) rfl ?_); refine goesL_ (some 10) rfl rfl Tryd.func37 (by kernel_rfl) rfl #[.slice A0 l0.length c0] rfl lz ?_; (with_reducible refine (examboardref49_read.calls k _ _ l0 t766 t769 t770 t771 _ ?side1 ?side2 A2.out).mono ?_); (case side1 => repeat (first | exact HR0.out | (with_reducible refine Kd.C_alloc ?_ _) | (with_reducible refine Kd.C_drewN ?_ _) | (with_reducible refine Kd.C_drew ?_))); (case side2 => exact HC0.out); rintro e w4 ⟨v767, rfl, ho0, hb⟩; refine ⟨_, rfl, ?_⟩; have HO768 := am (Kd.N_lower (Kd.N_mono (ok' := fun k_ => True) ho0 (fun k_ hk_ => trivial)) (below_size (hz HB.out))); replace HB := am (below_step (hz HB.out) hb); (try clear hb); (try clear hk); (try clear hi); (try clear ho0)))
  go_ret2
  exact ⟨ez, hz HB.out⟩
 ·
  rw [if_neg c3] at H
  have c3b0 : (t771 == 0) = false := beq_eq_false_iff_ne.mpr c3
  have c3b1 : (t771 != 0) = true := bne_iff_ne.mpr c3
  simp only [Option.some.injEq, Prod.mk.injEq] at H
  obtain ⟨rfl, rfl⟩ := H
  go_enter Tryd.func27, Tryd.ntmps27
  go_wp2_with (first | ((with_reducible refine gate_callee (f := 37) rfl ?_); refine goesL_ (some 10) rfl rfl Tryd.func37 (by kernel_rfl) rfl #[.slice A0 l0.length c0] rfl lz ?_; (with_reducible refine (examboardref49_read.calls k _ _ l0 t766 t769 t770 t771 _ ?side1 ?side2 A2.out).mono ?_); (case side1 => repeat (first | exact HR0.out | (with_reducible refine Kd.C_alloc ?_ _) | (with_reducible refine Kd.C_drewN ?_ _) | (with_reducible refine Kd.C_drew ?_))); (case side2 => exact HC0.out); rintro e w5 ⟨v767, rfl, ho0, hb⟩; refine ⟨_, rfl, ?_⟩; have HO768 := am (Kd.N_lower (Kd.N_mono (ok' := fun k_ => True) ho0 (fun k_ hk_ => trivial)) (below_size (hz HB.out))); replace HB := am (below_step (hz HB.out) hb); (try clear hb); (try clear hk); (try clear hi); (try clear ho0)))
  go_ret2
  exact ⟨ez, hz HB.out⟩

/-! ### examboardref49_Trim: function 28 -/
def examboardref49_Trim.f (k : Nat) (l0 : List Int) : Option (List Int) := (examboardref49_read.f k l0).bind fun bt772 => (if 0 ≤ bt772.2.1 then (if bt772.2.1 ≤ (l0.length : Int) then ((examboardref49_copied.f k (l0.take (bt772.2.1 : Int).toNat)).bind fun t779 => (some t779)) else (none)) else (none))
theorem examboardref49_Trim.mono : ∀ a0 k, LeO (examboardref49_Trim.f k a0) (examboardref49_Trim.f (k + 1) a0) := by
 intro a0 k
 unfold examboardref49_Trim.f
 repeat' first
   | (with_reducible exact examboardref49_copied.mono _ _)
   | (with_reducible exact examboardref49_read.mono _ _)
   | (with_reducible exact LeO.refl _)
   | (with_reducible exact LeO.none _)
   | (with_reducible refine LeO.ite ?_ ?_)
   | (with_reducible refine LeO.bind ?_ (fun _ => ?_))
   | exact examboardref49_copied.mono _ _
   | exact examboardref49_read.mono _ _
   | exact LeO.none _
   | refine LeO.ite ?_ ?_
   | refine LeO.bind ?_ (fun _ => ?_)
set_option maxHeartbeats 8000000 in
set_option maxRecDepth 100000 in
theorem examboardref49_Trim.calls (k : Nat) (A0 : Option Addr) (c0 : Nat) (l0 : List Int) (r : List Int) (w : World) (hr0 : Kd.C (Kd.int .u8) w A0 l0.length l0) (hc0 : l0.length ≤ c0) (h : examboardref49_Trim.f k l0 = some r) :
  Calls Tryd.prog 28 #[.slice A0 l0.length c0] w fun e w' => ∃ v0_ : Value, e = .returned (v0_) ∧ Kd.R (Kd.int .u8) 5 w' w.heap.size (fun _ => True) v0_ r ∧ Below w.heap.size w w' := by
 have HR0 := am hr0
 have HC0 := am hc0
 clear hr0 hc0
 have HB := am (Below.refl w.heap.size w)
 have H : ((examboardref49_read.f k l0).bind fun bt772 => (if 0 ≤ bt772.2.1 then (if bt772.2.1 ≤ (l0.length : Int) then ((examboardref49_copied.f k (l0.take (bt772.2.1 : Int).toNat)).bind fun t779 => (some t779)) else (none)) else (none))) = some r := h
 clear h
 replace H := Option.bind_eq_some_iff.mp H
 obtain ⟨⟨t772, t775, t776, t777⟩, A20, H⟩ := H
 replace H : (if 0 ≤ t775 then (if t775 ≤ (l0.length : Int) then ((examboardref49_copied.f k (l0.take (t775 : Int).toNat)).bind fun t779 => (some t779)) else (none)) else (none)) = some r := H
 have A2 := am A20
 clear A20
 replace H := it_ H
 obtain ⟨c3, H⟩ := H
 have c3b0 := eq_true c3
 have c3b1 : decide (0 ≤ t775) = true := decide_eq_true c3
 clear c3
 replace H := it_ H
 obtain ⟨c4, H⟩ := H
 have c4b0 := eq_true c4
 have c4b1 : decide (t775 ≤ (l0.length : Int)) = true := decide_eq_true c4
 clear c4
 replace H := Option.bind_eq_some_iff.mp H
 obtain ⟨t779, A50, H⟩ := H
 replace H : (some t779) = some r := H
 have A5 := am A50
 clear A50
 obtain rfl := Option.some.inj H
 go_enter Tryd.func28, Tryd.ntmps28
 go_wp2_with (first | ((with_reducible refine gate_callee (f := 37) rfl ?_); refine goesL_ (some 9) rfl rfl Tryd.func37 (by kernel_rfl) rfl #[.slice A0 l0.length c0] rfl lz ?_; (with_reducible refine (examboardref49_read.calls k _ _ l0 t772 t775 t776 t777 _ ?side1 ?side2 A2.out).mono ?_); (case side1 => repeat (first | exact HR0.out | (with_reducible refine Kd.C_alloc ?_ _) | (with_reducible refine Kd.C_drewN ?_ _) | (with_reducible refine Kd.C_drew ?_))); (case side2 => exact HC0.out); rintro e w6 ⟨v773, rfl, ho0, hb⟩; refine ⟨_, rfl, ?_⟩; have HO774 := am (Kd.N_lower (Kd.N_mono (ok' := fun k_ => True) ho0 (fun k_ hk_ => trivial)) (below_size (hz HB.out))); replace HB := am (below_step (hz HB.out) hb); (try clear hb); (try clear hk); (try clear hi); (try clear ho0); obtain ⟨i07, hi07, _, hsz7, _⟩ := info_parts info5; obtain ⟨hcut7, hA7, hC7⟩ := print_take_of (P := Tryd.prog) (Value.int .u8) 0 24 5 .i64 Tryd.underlying24 hi07 hsz7 A0 c0 l0 t775 (of_decide_eq_true az) (of_decide_eq_true az) HC0.out; have HR778 := am (Kd.C_of_reads (h1 := fun _ => rfl) (hA7 _ (Kd.reads_of_C HR0.out))); have HC778 := am hC7; clear hA7 hC7 hi07 hsz7) | ((with_reducible refine gate_callee (f := 40) rfl ?_); refine goesL_ (some 17) rfl rfl Tryd.func40 (by kernel_rfl) rfl #[.slice A0 (l0.take (t775 : Int).toNat).length c0] rfl (by (try simp only [List.map_toArray, List.map_cons, List.map_nil]); first | done | (rw [show (l0.take (t775 : Int).toNat).length = t775.toNat from (by rw [List.length_take]; have h_ : (t775 : Int) ≤ (l0.length : Int) := of_decide_eq_true az; omega)] <;> rfl) | rfl | (simp only [List.length_drop, List.length_take]; rfl)) ?_; (with_reducible refine (examboardref49_copied.calls k _ _ (l0.take (t775 : Int).toNat) t779 _ ?side1 ?side2 A5.out).mono ?_); (case side1 => exact cz (Kd.C_below HR778.out HB.out)); (case side2 => exact HC778.out); rintro e w8 ⟨v780, rfl, ho0, hb⟩; refine ⟨_, rfl, ?_⟩; replace HO774 := am (Kd.N_elder' (nz HO774.out) (Kd.R_base ho0) hb); have HO781 := am (Kd.R_lower ho0 (below_size (hz HB.out))); replace HB := am (below_step (hz HB.out) hb); (try clear hb); (try clear hk); (try clear hi); (try clear ho0)))
 go_ret
 exact ⟨_, by first | rfl | (simp [errW_none, errW_some] <;> rfl) | (simp [*, errW_none, errW_some] <;> rfl), by (with_reducible repeat (first | apply Kd.R_alloc | apply Kd.R_drewN | apply Kd.R_drew)); exact HO781.out, hz HB.out⟩

/-! ### examboardref49_Count: function 29 -/
def examboardref49_Count.f (k : Nat) (l0 : List Int) : Option (Int) := (examboardref49_read.f k l0).bind fun bt782 => (some (bt782.1.length : Int))
theorem examboardref49_Count.mono : ∀ a0 k, LeO (examboardref49_Count.f k a0) (examboardref49_Count.f (k + 1) a0) := by
 intro a0 k
 unfold examboardref49_Count.f
 repeat' first
   | (with_reducible exact examboardref49_read.mono _ _)
   | (with_reducible exact LeO.refl _)
   | (with_reducible exact LeO.none _)
   | (with_reducible refine LeO.ite ?_ ?_)
   | (with_reducible refine LeO.bind ?_ (fun _ => ?_))
   | exact examboardref49_read.mono _ _
   | exact LeO.none _
   | refine LeO.ite ?_ ?_
   | refine LeO.bind ?_ (fun _ => ?_)
set_option maxHeartbeats 8000000 in
set_option maxRecDepth 100000 in
theorem examboardref49_Count.calls (k : Nat) (A0 : Option Addr) (c0 : Nat) (l0 : List Int) (r : Int) (w : World) (hr0 : Kd.C (Kd.int .u8) w A0 l0.length l0) (hc0 : l0.length ≤ c0) (h : examboardref49_Count.f k l0 = some r) :
  Calls Tryd.prog 29 #[.slice A0 l0.length c0] w fun e w' => e = .returned (.int .i64 r) ∧ Below w.heap.size w w' := by
 have HR0 := am hr0
 have HC0 := am hc0
 clear hr0 hc0
 have HB := am (Below.refl w.heap.size w)
 have H : ((examboardref49_read.f k l0).bind fun bt782 => (some (bt782.1.length : Int))) = some r := h
 clear h
 replace H := Option.bind_eq_some_iff.mp H
 obtain ⟨⟨t782, t785, t786, t787⟩, A20, H⟩ := H
 replace H : (some (t782.length : Int)) = some r := H
 have A2 := am A20
 clear A20
 obtain rfl := Option.some.inj H
 go_enter Tryd.func29, Tryd.ntmps29
 go_wp2_with (first | ((with_reducible refine gate_callee (f := 37) rfl ?_); refine goesL_ (some 9) rfl rfl Tryd.func37 (by kernel_rfl) rfl #[.slice A0 l0.length c0] rfl lz ?_; (with_reducible refine (examboardref49_read.calls k _ _ l0 t782 t785 t786 t787 _ ?side1 ?side2 A2.out).mono ?_); (case side1 => repeat (first | exact HR0.out | (with_reducible refine Kd.C_alloc ?_ _) | (with_reducible refine Kd.C_drewN ?_ _) | (with_reducible refine Kd.C_drew ?_))); (case side2 => exact HC0.out); rintro e w3 ⟨v783, rfl, ho0, hb⟩; refine ⟨_, rfl, ?_⟩; have HO784 := am (Kd.N_lower (Kd.N_mono (ok' := fun k_ => True) ho0 (fun k_ hk_ => trivial)) (below_size (hz HB.out))); replace HB := am (below_step (hz HB.out) hb); (try clear hb); (try clear hk); (try clear hi); (try clear ho0); obtain ⟨Ao4, co4, eo4⟩ := Kd.N_slice HO784.out; subst eo4))
 go_ret
 exact ⟨ez, hz HB.out⟩

end Go.Proofs.YteeggfnailpcpaaDoor.Q
