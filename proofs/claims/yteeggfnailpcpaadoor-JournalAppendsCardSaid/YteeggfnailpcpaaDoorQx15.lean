/- Made by wip/myprint.py of this session (it drives the kit's printer): what the calls of the Go functions come to, as plain Lean functions, and the row of a law over them; without conditions. -/
import Derived.Test.YteeggfnailpcpaaDoorQx0
import Derived.Test.YteeggfnailpcpaaDoorQx14
namespace Go.Proofs.YteeggfnailpcpaaDoor.Q
open Go.RowKit Go.Proofs.YteeggfnailpcpaaDoorW.PrintWords Go.Proofs.YteeggfnailpcpaaDoorW.PrintLast Go.Proofs.YteeggfnailpcpaaDoorW.PrintMore
attribute [local go_sem] max2_int min2_int max_two min_two max_three min_three max_four min_four   -- for this text's walks alone
set_option linter.unusedVariables false
set_option linter.unusedSimpArgs false

/-! ### examboardref10_write: function 50 -/
mutual
def examboardref10_write.l0 : Nat → List Int → Int → Int → Int → Int → ByteArray → List (S43) → Option (List Int)
 | 0, _, _, _, _, _, _, _ => none
 | k + 1, x0, x6, x558000, x558001, x558002, x558003, x558004 => if x6 < (x558004.length : Int) then (if 0 ≤ x6 then ((examboardref10_write.f k x0 ((rd_T43 x558004 x6).f0) ((rd_T43 x558004 x6).f1) ((rd_T43 x558004 x6).f2) ((rd_T43 x558004 x6).f3) ((rd_T43 x558004 x6).f4)).bind fun t583 => (examboardref10_write.l0 k t583 (wrap64 (x6 + 1)) x558000 x558001 x558002 x558003 x558004)) else (none)) else (some x0)
def examboardref10_write.f : Nat → List Int → Int → Int → Int → ByteArray → List (S43) → Option (List Int)
 | 0, _, _, _, _, _, _ => none
 | k + 1, l0, a1_0, a1_1, a1_2, a1_3, l1_4 => if (l0.length : Int) > 1048576 then (some l0) else ((examboardref10_varint.f k l0 (IntKind.u64.wrap (a1_0))).bind fun t558 => ((some (([(a1_1) % 256] : List Int) : List Int)).bind fun y561 => (if t558.length + y561.length < 140737488355328 then ((some (t558 ++ y561 : List Int)).bind fun y564 => (if a1_1 = 1 then (if a1_2 < 0 then ((examboardref10_varint.f k y564 (IntKind.u64.wrap ((IntKind.u64.wrap (2 * (IntKind.u64.wrap (wrap64 (-(wrap64 (a1_2 + 1))))))) + 1))).bind fun t567 => (some t567)) else ((examboardref10_varint.f k y564 (IntKind.u64.wrap (2 * (IntKind.u64.wrap (a1_2))))).bind fun t570 => (some t570))) else (if a1_1 = 2 then ((examboardref10_varint.f k y564 (IntKind.u64.wrap ((a1_3.size : Int)))).bind fun t573 => (if t573.length + a1_3.size < 140737488355328 then (some (t573 ++ bytesOf a1_3)) else (none))) else ((examboardref10_varint.f k y564 (IntKind.u64.wrap ((l1_4.length : Int)))).bind fun t579 => (examboardref10_write.l0 k t579 0 a1_0 a1_1 a1_2 a1_3 l1_4))))) else (none))))
end
theorem examboardref10_write.mono_l : ∀ k, (∀ y0 y1 y2 y3 y4 y5, LeO (examboardref10_write.f k y0 y1 y2 y3 y4 y5) (examboardref10_write.f (k + 1) y0 y1 y2 y3 y4 y5)) ∧ (∀ y0 y1 y2 y3 y4 y5 y6, LeO (examboardref10_write.l0 k y0 y1 y2 y3 y4 y5 y6) (examboardref10_write.l0 (k + 1) y0 y1 y2 y3 y4 y5 y6))
 | 0 => ⟨fun _ _ _ _ _ _ r h => by simp [examboardref10_write.f] at h, fun _ _ _ _ _ _ _ r h => by simp [examboardref10_write.l0] at h⟩
 | k + 1 => by
  obtain ⟨ih0, ih1⟩ := examboardref10_write.mono_l k
  refine ⟨?_, ?_⟩
  ·
   intro y0 y1 y2 y3 y4 y5
   unfold examboardref10_write.f
   repeat' first
   | (with_reducible exact ih0 _ _ _ _ _ _)
   | (with_reducible exact ih1 _ _ _ _ _ _ _)
   | (with_reducible exact examboardref10_varint.mono _ _ _)
   | (with_reducible exact LeO.refl _)
   | (with_reducible exact LeO.none _)
   | (with_reducible refine LeO.ite ?_ ?_)
   | (with_reducible refine LeO.bind ?_ (fun _ => ?_))
   | exact ih0 _ _ _ _ _ _
   | exact ih1 _ _ _ _ _ _ _
   | exact examboardref10_varint.mono _ _ _
   | exact LeO.none _
   | refine LeO.ite ?_ ?_
   | refine LeO.bind ?_ (fun _ => ?_)
  ·
   intro y0 y1 y2 y3 y4 y5 y6
   unfold examboardref10_write.l0
   repeat' first
   | (with_reducible exact ih0 _ _ _ _ _ _)
   | (with_reducible exact ih1 _ _ _ _ _ _ _)
   | (with_reducible exact examboardref10_varint.mono _ _ _)
   | (with_reducible exact LeO.refl _)
   | (with_reducible exact LeO.none _)
   | (with_reducible refine LeO.ite ?_ ?_)
   | (with_reducible refine LeO.bind ?_ (fun _ => ?_))
   | exact ih0 _ _ _ _ _ _
   | exact ih1 _ _ _ _ _ _ _
   | exact examboardref10_varint.mono _ _ _
   | exact LeO.none _
   | refine LeO.ite ?_ ?_
   | refine LeO.bind ?_ (fun _ => ?_)
theorem examboardref10_write.mono : ∀ a0 a1 a2 a3 a4 a5 k, LeO (examboardref10_write.f k a0 a1 a2 a3 a4 a5) (examboardref10_write.f (k + 1) a0 a1 a2 a3 a4 a5) := by
 intro a0 a1 a2 a3 a4 a5 k
 obtain ⟨ih0, ih1⟩ := examboardref10_write.mono_l k
 exact ih0 a0 a1 a2 a3 a4 a5
def examboardref10_write.T3 : Bool × List (List Nat × List Nat) := (true, [([], []), ([], []), ([1], [1]), ([2], [2]), ([0, 3], [0, 3]), ([], []), ([5], [5]), ([6], [6]), ([7], [7]), ([4, 8, 4], [4, 8]), ([9, 9, 0, 1, 2, 3, 4, 5, 6, 7, 8, 9], [0, 9])])
def examboardref10_write.B3 : List Nat := [0, 0, 2, 6, 15, 0, 32, 96, 224, 511, 1023]
theorem examboardref10_write.tab3 : rtab .any (opsOf Tryd.f50 3) = examboardref10_write.T3 := by kernel_rfl
theorem examboardref10_write.bits3 : waitsOk examboardref10_write.T3.2 examboardref10_write.B3 = true := by kernel_rfl
def examboardref10_write.T10 : Bool × List (List Nat × List Nat) := (true, [([], []), ([], []), ([1], [1]), ([2], [2]), ([3], [3]), ([0, 4], [0, 4]), ([], []), ([6], [6]), ([5, 7, 5], [5, 7]), ([8, 8, 0, 1, 2, 3, 4, 5, 6, 7, 8], [8])])
def examboardref10_write.B10 : List Nat := [0, 0, 2, 6, 14, 31, 0, 64, 255, 511]
theorem examboardref10_write.tab10 : rtab .any (opsOf Tryd.f50 10) = examboardref10_write.T10 := by kernel_rfl
theorem examboardref10_write.bits10 : waitsOk examboardref10_write.T10.2 examboardref10_write.B10 = true := by kernel_rfl
set_option maxHeartbeats 8000000 in
set_option maxRecDepth 100000 in
theorem examboardref10_write.calls (k : Nat) : ∀ (P0_ : Nat → Prop) (u9000_ : Value) (l0 : List Int) (a1_0 : Int) (a1_1 : Int) (a1_2 : Int) (a1_3 : ByteArray) (A1_4 : Option Addr) (c1_4 : Nat) (l1_4 : List (S43)) (r : List Int) (w0 w : World) (hB : Below w0.heap.size w0 w) (ho0 : Kd.R (Kd.int .u8) 5 w w0.heap.size P0_ u9000_ l0) (hr1_4 : Kd.C k43 w0 A1_4 l1_4.length l1_4) (hc1_4 : l1_4.length ≤ c1_4) (h : examboardref10_write.f k l0 a1_0 a1_1 a1_2 a1_3 l1_4 = some r),
  Calls Tryd.prog 50 #[u9000_, .agg #[.int .i64 a1_0, .int .i64 a1_1, .int .i64 a1_2, .string a1_3, .slice A1_4 l1_4.length c1_4]] w fun e w' => ∃ v0_ : Value, e = .returned (v0_) ∧ Kd.R (Kd.int .u8) 5 w' w0.heap.size (fun k_ => (P0_ k_ ∨ w.heap.size ≤ k_)) v0_ r ∧ Below w0.heap.size w0 w' ∧ Kept w w' (fun k_ => P0_ k_) := by
 induction k using Nat.strongRecOn with
 | _ k ih =>
 intro P0_ u9000_ l0 a1_0 a1_1 a1_2 a1_3 A1_4 c1_4 l1_4 r w0 w hB ho0 hr1_4 hc1_4 h
 cases k with
 | zero => exact absurd h (by simp [examboardref10_write.f])
 | succ k =>
 simp only [examboardref10_write.f] at h
 have hu43 := Tryd.underlying43
 have HO0 := am (show Kd.R (Kd.int .u8) 5 w w0.heap.size (fun k_ => (P0_ k_ ∨ w.heap.size ≤ k_)) u9000_ l0 from Kd.R_mono ho0 (fun k_ hk => (.inl hk)))
 have HR1_4 := am hr1_4
 have HC1_4 := am hc1_4
 clear hr1_4 hc1_4
 have HK := am (Kept.refl w (fun k_ => P0_ k_))
 have HW0 := am hB.size
 have HB := am hB
 clear hB
 have H : (if (l0.length : Int) > 1048576 then (some l0) else ((examboardref10_varint.f k l0 (IntKind.u64.wrap (a1_0))).bind fun t558 => ((some (([(a1_1) % 256] : List Int) : List Int)).bind fun y561 => (if t558.length + y561.length < 140737488355328 then ((some (t558 ++ y561 : List Int)).bind fun y564 => (if a1_1 = 1 then (if a1_2 < 0 then ((examboardref10_varint.f k y564 (IntKind.u64.wrap ((IntKind.u64.wrap (2 * (IntKind.u64.wrap (wrap64 (-(wrap64 (a1_2 + 1))))))) + 1))).bind fun t567 => (some t567)) else ((examboardref10_varint.f k y564 (IntKind.u64.wrap (2 * (IntKind.u64.wrap (a1_2))))).bind fun t570 => (some t570))) else (if a1_1 = 2 then ((examboardref10_varint.f k y564 (IntKind.u64.wrap ((a1_3.size : Int)))).bind fun t573 => (if t573.length + a1_3.size < 140737488355328 then (some (t573 ++ bytesOf a1_3)) else (none))) else ((examboardref10_varint.f k y564 (IntKind.u64.wrap ((l1_4.length : Int)))).bind fun t579 => (examboardref10_write.l0 k t579 0 a1_0 a1_1 a1_2 a1_3 l1_4))))) else (none))))) = some r := h
 clear h
 by_cases c3 : (l0.length : Int) > 1048576
 ·
  rw [if_pos c3] at H
  have c3b0 : decide (1048576 < (l0.length : Int)) = true := decide_eq_true c3
  have c3b1 : decide (1048576 < l0.length) = true := decide_eq_true (by omega)
  clear c3
  obtain rfl := Option.some.inj H
  go_enter Tryd.func50, Tryd.ntmps50
  go_wp2_with (first | ((with_reducible refine gate_dst (N := 3) rfl ?_); refine box_event rfl (N := 3) rfl (cs := #[.int .i64 a1_0, .int .i64 a1_1, .int .i64 a1_2, .string a1_3, .slice A1_4 l1_4.length c1_4]) (t := 43) gz ?_; intro gb557 hg w4 hbox hb; replace HO0 := am (Kd.R_below (rz HO0.out) hb); have BK557 := am (hbox); have GW557 := am ((by rw [hg]; exact (by first | exact HK.out.1 | exact (show Kept w _ (fun k_ => P0_ k_) from by repeat (first | (with_reducible first | exact HK.out | apply Kept.alloc | apply Kept.drewN | apply Kept.drew) | exact HK.out)).1) : w.heap.size ≤ gb557)); replace HK := am (Kept.below (S := (fun k_ => P0_ k_)) (by repeat (first | (with_reducible first | exact HK.out | apply Kept.alloc | apply Kept.drewN | apply Kept.drew) | exact HK.out)) hb); have GE557 := am ((bs hg (hz HB.out) : w0.heap.size ≤ gb557)); replace HB := am (below_step (hz HB.out) hb); clear hb hbox hg; obtain ⟨Ao5, co5, eo5⟩ := Kd.R_slice HO0.out; subst eo5))
  go_ret
  exact ⟨_, ew, rz HO0.out, hz1 HB.out GE557.out, by repeat (first | (with_reducible first | exact HK.out | apply Kept.alloc | apply Kept.drewN | apply Kept.drew | refine Kept.setCell ?_ (.inr GW557.out) _) | exact HK.out)⟩
 ·
  rw [if_neg c3] at H
  have c3b0 : decide (1048576 < (l0.length : Int)) = false := decide_eq_false c3
  have c3b1 : decide (1048576 < l0.length) = false := decide_eq_false (by omega)
  clear c3
  replace H := Option.bind_eq_some_iff.mp H
  obtain ⟨t558, A60, H⟩ := H
  try dsimp only at H
  have A6 := am A60
  clear A60
  obtain ⟨y561, hy561⟩ : ∃ y_ : List Int, y_ = (([(a1_1) % 256] : List Int)) := ⟨_, rfl⟩
  replace H : (if t558.length + y561.length < 140737488355328 then ((some (t558 ++ y561 : List Int)).bind fun y564 => (if a1_1 = 1 then (if a1_2 < 0 then ((examboardref10_varint.f k y564 (IntKind.u64.wrap ((IntKind.u64.wrap (2 * (IntKind.u64.wrap (wrap64 (-(wrap64 (a1_2 + 1))))))) + 1))).bind fun t567 => (some t567)) else ((examboardref10_varint.f k y564 (IntKind.u64.wrap (2 * (IntKind.u64.wrap (a1_2))))).bind fun t570 => (some t570))) else (if a1_1 = 2 then ((examboardref10_varint.f k y564 (IntKind.u64.wrap ((a1_3.size : Int)))).bind fun t573 => (if t573.length + a1_3.size < 140737488355328 then (some (t573 ++ bytesOf a1_3)) else (none))) else ((examboardref10_varint.f k y564 (IntKind.u64.wrap ((l1_4.length : Int)))).bind fun t579 => (examboardref10_write.l0 k t579 0 a1_0 a1_1 a1_2 a1_3 l1_4))))) else (none)) = some r := by first | (rw [hy561]; with_reducible exact H) | (have H2_ := (Option.bind_some _ _).symm.trans H; rw [hy561]; with_reducible exact H2_) | (have H2_ := (Option.bind_some _ _).symm.trans H; with_reducible exact H2_) | with_reducible exact H | (rw [hy561]; exact H) | exact H
  have Ny561 := am hy561
  clear hy561
  replace H := it_ H
  obtain ⟨c7, H⟩ := H
  have LMc7 := am c7
  clear c7
  obtain ⟨y564, hy564⟩ : ∃ y_ : List Int, y_ = (t558 ++ y561) := ⟨_, rfl⟩
  replace H : (if a1_1 = 1 then (if a1_2 < 0 then ((examboardref10_varint.f k y564 (IntKind.u64.wrap ((IntKind.u64.wrap (2 * (IntKind.u64.wrap (wrap64 (-(wrap64 (a1_2 + 1))))))) + 1))).bind fun t567 => (some t567)) else ((examboardref10_varint.f k y564 (IntKind.u64.wrap (2 * (IntKind.u64.wrap (a1_2))))).bind fun t570 => (some t570))) else (if a1_1 = 2 then ((examboardref10_varint.f k y564 (IntKind.u64.wrap ((a1_3.size : Int)))).bind fun t573 => (if t573.length + a1_3.size < 140737488355328 then (some (t573 ++ bytesOf a1_3)) else (none))) else ((examboardref10_varint.f k y564 (IntKind.u64.wrap ((l1_4.length : Int)))).bind fun t579 => (examboardref10_write.l0 k t579 0 a1_0 a1_1 a1_2 a1_3 l1_4)))) = some r := by first | (rw [hy564]; with_reducible exact H) | (have H2_ := (Option.bind_some _ _).symm.trans H; rw [hy564]; with_reducible exact H2_) | (have H2_ := (Option.bind_some _ _).symm.trans H; with_reducible exact H2_) | with_reducible exact H | (rw [hy564]; exact H) | exact H
  have Ny564 := am hy564
  clear hy564
  by_cases c8 : a1_1 = 1
  ·
   rw [if_pos c8] at H
   have c8b0 : (a1_1 == 1) = true := beq_iff_eq.mpr c8
   have c8b1 : (a1_1 != 1) = false := bne_eq_false_iff_eq.mpr c8
   clear c8
   by_cases c9 : a1_2 < 0
   ·
    rw [if_pos c9] at H
    have c9b0 : decide (a1_2 < 0) = true := decide_eq_true c9
    clear c9
    replace H := Option.bind_eq_some_iff.mp H
    obtain ⟨t567, A100, H⟩ := H
    try dsimp only at H
    have A10 := am A100
    clear A100
    obtain rfl := Option.some.inj H
    go_enter Tryd.func50, Tryd.ntmps50
    try go_wp2_with (first | ((with_reducible refine gate_dst (N := 3) rfl ?_); refine box_event rfl (N := 3) rfl (cs := #[.int .i64 a1_0, .int .i64 a1_1, .int .i64 a1_2, .string a1_3, .slice A1_4 l1_4.length c1_4]) (t := 43) gz ?_; intro gb557 hg w11 hbox hb; replace HO0 := am (Kd.R_below (rz HO0.out) hb); have BK557 := am (hbox); have GW557 := am ((by rw [hg]; exact (by first | exact HK.out.1 | exact (show Kept w _ (fun k_ => P0_ k_) from by repeat (first | (with_reducible first | exact HK.out | apply Kept.alloc | apply Kept.drewN | apply Kept.drew) | exact HK.out)).1) : w.heap.size ≤ gb557)); replace HK := am (Kept.below (S := (fun k_ => P0_ k_)) (by repeat (first | (with_reducible first | exact HK.out | apply Kept.alloc | apply Kept.drewN | apply Kept.drew) | exact HK.out)) hb); have GE557 := am ((bs hg (hz HB.out) : w0.heap.size ≤ gb557)); replace HB := am (below_step (hz HB.out) hb); clear hb hbox hg; obtain ⟨Ao12, co12, eo12⟩ := Kd.R_slice HO0.out; subst eo12))
    replace HO0 := am (Kd.R_drew HO0.out)
    replace BK557 := am (blk_drew BK557.out)
    replace HK := am (Kept.drew HK.out)
    replace HB := am (below_drew1 HB.out)
    refine start_ (n := 11) (S := fun w' => w'.cell? ⟨gb557, 0, none⟩ = some (.int .i64 a1_0) ∧ w'.cell? ⟨gb557, 1, none⟩ = some (.int .i64 a1_1) ∧ w'.cell? ⟨gb557, 2, none⟩ = some (.int .i64 a1_2) ∧ w'.cell? ⟨gb557, 3, none⟩ = some (.string a1_3) ∧ w'.cell? ⟨gb557, 4, none⟩ = some (.slice A1_4 l1_4.length c1_4)) (ds := []) #[false, false, false, false, false, false, false, false, false, false, false] (by kernel_rfl) rfl rfl ⟨(blk_cell BK557.out 0).trans rfl, (blk_cell BK557.out 1).trans rfl, (blk_cell BK557.out 2).trans rfl, (blk_cell BK557.out 3).trans rfl, (blk_cell BK557.out 4).trans rfl⟩ (fun hHeld => ?_); refine with_tabW examboardref10_write.tab3 examboardref10_write.bits3 (fun HT_ HW_ => ?_)
    generalize w11.drew = w13 at HO0 BK557 HK HB hHeld ⊢
    refine pz 0 11 HT_.out ?_
    refine pz 1 12 HT_.out ?_
    refine pz 5 16 HT_.out ?_
    refine take_ (i := 2) (N := some 13) (v := ?_) (a' := ?_) #[true, true, true, false, false, true, false, false, false, false, false] rfl rfl (take_ofW HT_.out HW_.out (by kernel_rfl)) (fun _ _ _ h => h) (Or.inl ⟨by rfl, ?_⟩) hHeld ?_ ?_
    rotate_left
    ·
     rintro w' ⟨s0, s1, s2, s3, s4⟩
     go_simp
     with_reducible rfl
    rotate_left
    ·
     simp only [Act.put, List.setIfInBounds_toArray, List.set_cons_zero, List.set_cons_succ, i64_w, i32_w]
     rfl
    refine pz 3 14 HT_.out ?_
    refine take_ (i := 6) (N := some 17) (v := ?_) (a' := ?_) #[true, true, true, true, false, true, true, false, false, false, false] rfl rfl (take_ofW HT_.out HW_.out (by kernel_rfl)) (fun _ _ _ h => h) (Or.inl ⟨by rfl, ?_⟩) hHeld ?_ ?_
    rotate_left
    ·
     rintro w' ⟨s0, s1, s2, s3, s4⟩
     go_simp
     with_reducible rfl
    rotate_left
    ·
     simp only [Act.put, List.setIfInBounds_toArray, List.set_cons_zero, List.set_cons_succ, i64_w, i32_w]
     rfl
    refine pz 7 18 HT_.out ?_
    refine join_ (σ := Value × Value) 2 #[true, true, true, true, true, true, true, true, true, false, false] (fun s_ => [(15, s_.1), (19, s_.2)]) (fun s_ w' => (w'.cell? ⟨gb557, 0, none⟩ = some (.int .i64 a1_0) ∧ w'.cell? ⟨gb557, 1, none⟩ = some (.int .i64 a1_1) ∧ w'.cell? ⟨gb557, 2, none⟩ = some (.int .i64 a1_2) ∧ w'.cell? ⟨gb557, 3, none⟩ = some (.string a1_3) ∧ w'.cell? ⟨gb557, 4, none⟩ = some (.slice A1_4 l1_4.length c1_4)) ∧ (Kd.R (Kd.int .u8) 5 w' w0.heap.size (fun k_ => (P0_ k_ ∨ w.heap.size ≤ k_) ∧ some k_ ≠ (s_.2 : Value).ownBlock) s_.1 t558) ∧ (Kd.R (Kd.int .u8) 5 w' w0.heap.size (fun k_ => (P0_ k_ ∨ w.heap.size ≤ k_) ∧ some k_ ≠ (s_.1 : Value).ownBlock) s_.2 y561) ∧ (w'.heap[gb557]? = some (.cells #[.int .i64 a1_0, .int .i64 a1_1, .int .i64 a1_2, .string a1_3, .slice A1_4 l1_4.length c1_4] 43 (0, 0))) ∧ (Kept w w' (fun k_ => P0_ k_)) ∧ (Below w0.heap.size w0 w')) ?_ ?_
    rotate_left
    ·
     intro hCont
     refine two_ (i := 4) (j := 8) (Ni := some 15) (Nj := some 19) #[true, true, true, true, true, true, true, true, false, false, false] #[true, true, true, true, false, true, true, true, true, false, false] rfl rfl rfl rfl (two_of HT_.out (by kernel_rfl)) (by decide) (by decide) (fun K hK => ?_) (fun K hK => ?_)
     ·
      skip
      refine goes_ Tryd.func64 (by kernel_rfl) rfl #[.slice Ao12 l0.length co12, .int .u64 (IntKind.u64.wrap (a1_0))] (by rfl) rfl rfl lz ?_
      with_reducible refine (examboardref10_varint.calls k (fun k_ => some k_ = (.slice Ao12 l0.length co12 : Value).ownBlock) (.slice Ao12 l0.length co12) l0 (IntKind.u64.wrap (a1_0)) t558 w0 _ ?side1 ?side2 A6.out).mono ?_
      (case side1 => exact hz1 HB.out GE557.out)
      (case side2 => exact Kd.R_tight rfl HO0.out)
      rintro e w14 ⟨v559, rfl, ho0, hb, hkp⟩
      refine ⟨_, rfl, ?_⟩
      replace BK557 := am (blk_kept (bz BK557.out) hkp (fun hs_ => (fun e_ => (Kd.R_ne HO0.out BK557.out (by decide)) e_) hs_))
      have HO560 := am (Kd.R_mono (ok' := fun k_ => (P0_ k_ ∨ w.heap.size ≤ k_)) ho0 (fun k_ hk_ => Or.elim hk_ (fun hs_ => (HO0.out.1 k_ (hs_).symm)) (fun hn_ => (.inr (Nat.le_trans (by first | exact HK.out.1 | exact (show Kept w _ (fun k_ => P0_ k_) from by repeat (first | (with_reducible first | exact HK.out | apply Kept.alloc | apply Kept.drewN | apply Kept.drew | refine Kept.setCell ?_ (.inr GW557.out) _) | exact HK.out)).1) hn_)))))
      replace HK := am (Kept.then_ (S := (fun k_ => P0_ k_)) (by repeat (first | (with_reducible first | exact HK.out | apply Kept.alloc | apply Kept.drewN | apply Kept.drew | refine Kept.setCell ?_ (.inr GW557.out) _) | exact HK.out)) hkp (fun k_ hs_ => (fun e_ => (HO0.out.1 k_ e_.symm)) hs_))
      replace HB := am (hb)
      clear HO0
      (try clear hb)
      (try clear hkp)
      (try clear ho0)
      refine hK.out _ _ ⟨(blk_cell BK557.out 0).trans rfl, (blk_cell BK557.out 1).trans rfl, (blk_cell BK557.out 2).trans rfl, (blk_cell BK557.out 3).trans rfl, (blk_cell BK557.out 4).trans rfl⟩ (fun hHeld => ?_)
      clear hK K
      refine norm_ (a' := ?_) ?_ ?_
      rotate_left
      ·
       show Act.put _ (some 15) _ = _
       simp only [Act.put, List.setIfInBounds_toArray, List.set_cons_zero, List.set_cons_succ, i64_w, i32_w]
       rfl
      refine oz 8 19 HT_.out (fun K hK => ?_)
      refine Kd.R_lit_step (Kd.int .u8) _ 5 ?hg (N := 19) ?hd (xs := ([(a1_1) % 256] : List Int)) (inner := [.int .u8 ((a1_1) % 256)]) (ok := fun _ => True) (okp := fun _ => True) ?hr ?hp (fun _ hk => hk) trivial (Below.refl _ _) (Nat.le_refl _) (by simp) ?_; (case hd => rfl); (case hg => rfl); (case hr => exact gz); (case hp => exact (Reps.one (show Kd.M (Kd.int .u8) _ _ _ ((a1_1) % 256) [.int .u8 ((a1_1) % 256)] from rfl) (Reps.none _ _)))
      intro v562 w15 ho16 hb hg_ hnew_
      clear hg_ hnew_
      (first | rw [← Ny561.out] at ho16 | (simp only [Int.reduceToNat] at ho16; rw [← Ny561.out] at ho16))
      have HO563 := am (Kd.R_lower (Kd.R_new' (Kd.R_newM (M := fun k_ => (P0_ k_ ∨ w.heap.size ≤ k_)) ho16 (by first | exact HK.out.1 | exact (show Kept w _ (fun k_ => P0_ k_) from by repeat (first | (with_reducible first | exact HK.out | apply Kept.alloc | apply Kept.drewN | apply Kept.drew | refine Kept.setCell ?_ (.inr GW557.out) _) | exact HK.out)).1) (fun k_ h_ => .inr h_)) (Kd.R_lt (rz HO560.out))) (below_size (hz1 HB.out GE557.out)))
      replace HO560 := am (Kd.R_elder' (rz HO560.out) (Kd.R_base ho16) hb)
      replace BK557 := am (blk_below (bz BK557.out) hb)
      replace HK := am (Kept.below (S := (fun k_ => P0_ k_)) (by repeat (first | (with_reducible first | exact HK.out | apply Kept.alloc | apply Kept.drewN | apply Kept.drew | refine Kept.setCell ?_ (.inr GW557.out) _) | exact HK.out)) hb)
      replace HB := am (below_step (hz1 HB.out GE557.out) hb)
      clear hb ho16
      refine hK.out _ _ ⟨(blk_cell BK557.out 0).trans rfl, (blk_cell BK557.out 1).trans rfl, (blk_cell BK557.out 2).trans rfl, (blk_cell BK557.out 3).trans rfl, (blk_cell BK557.out 4).trans rfl⟩ (fun hHeld => ?_)
      clear hK K
      refine norm_ (a' := ?_) ?_ ?_
      rotate_left
      ·
       show Act.put _ (some 19) _ = _
       simp only [Act.put, List.setIfInBounds_toArray, List.set_cons_zero, List.set_cons_succ, i64_w, i32_w]
       rfl
      exact norm_ (by simp only [putAll, Act.put, List.setIfInBounds_toArray, List.set_cons_zero, List.set_cons_succ]) (hCont (v559, v562) _ ⟨hHeld, (rz HO560.out), (rz (Kd.R_mono HO563.out (fun _ hk => ⟨hk.1.1, hk.2⟩))), (bz BK557.out), (by repeat (first | (with_reducible first | exact HK.out | apply Kept.alloc | apply Kept.drewN | apply Kept.drew | refine Kept.setCell ?_ (.inr GW557.out) _) | exact HK.out)), (hz1 HB.out GE557.out)⟩)
     ·
      skip
      refine Kd.R_lit_step (Kd.int .u8) _ 5 ?hg (N := 19) ?hd (xs := ([(a1_1) % 256] : List Int)) (inner := [.int .u8 ((a1_1) % 256)]) (ok := fun _ => True) (okp := fun _ => True) ?hr ?hp (fun _ hk => hk) trivial (Below.refl _ _) (Nat.le_refl _) (by simp) ?_; (case hd => rfl); (case hg => rfl); (case hr => exact gz); (case hp => exact (Reps.one (show Kd.M (Kd.int .u8) _ _ _ ((a1_1) % 256) [.int .u8 ((a1_1) % 256)] from rfl) (Reps.none _ _)))
      intro v562 w14 ho15 hb hg_ hnew_
      clear hg_ hnew_
      (first | rw [← Ny561.out] at ho15 | (simp only [Int.reduceToNat] at ho15; rw [← Ny561.out] at ho15))
      have HO563 := am (Kd.R_lower (Kd.R_new' (Kd.R_newM (M := fun k_ => (P0_ k_ ∨ w.heap.size ≤ k_)) ho15 (by first | exact HK.out.1 | exact (show Kept w _ (fun k_ => P0_ k_) from by repeat (first | (with_reducible first | exact HK.out | apply Kept.alloc | apply Kept.drewN | apply Kept.drew | refine Kept.setCell ?_ (.inr GW557.out) _) | exact HK.out)).1) (fun k_ h_ => .inr h_)) (Kd.R_lt (rz HO0.out))) (below_size (hz1 HB.out GE557.out)))
      replace HO0 := am (Kd.R_elder' (rz HO0.out) (Kd.R_base ho15) hb)
      replace BK557 := am (blk_below (bz BK557.out) hb)
      replace HK := am (Kept.below (S := (fun k_ => P0_ k_)) (by repeat (first | (with_reducible first | exact HK.out | apply Kept.alloc | apply Kept.drewN | apply Kept.drew | refine Kept.setCell ?_ (.inr GW557.out) _) | exact HK.out)) hb)
      replace HB := am (below_step (hz1 HB.out GE557.out) hb)
      clear hb ho15
      refine hK.out _ _ ⟨(blk_cell BK557.out 0).trans rfl, (blk_cell BK557.out 1).trans rfl, (blk_cell BK557.out 2).trans rfl, (blk_cell BK557.out 3).trans rfl, (blk_cell BK557.out 4).trans rfl⟩ (fun hHeld => ?_)
      clear hK K
      refine norm_ (a' := ?_) ?_ ?_
      rotate_left
      ·
       show Act.put _ (some 19) _ = _
       simp only [Act.put, List.setIfInBounds_toArray, List.set_cons_zero, List.set_cons_succ, i64_w, i32_w]
       rfl
      refine oz 4 15 HT_.out (fun K hK => ?_)
      refine goes_ Tryd.func64 (by kernel_rfl) rfl #[.slice Ao12 l0.length co12, .int .u64 (IntKind.u64.wrap (a1_0))] (by rfl) rfl rfl lz ?_
      with_reducible refine (examboardref10_varint.calls k (fun k_ => some k_ = (.slice Ao12 l0.length co12 : Value).ownBlock) (.slice Ao12 l0.length co12) l0 (IntKind.u64.wrap (a1_0)) t558 w0 _ ?side1 ?side2 A6.out).mono ?_
      (case side1 => exact hz1 HB.out GE557.out)
      (case side2 => exact Kd.R_tight rfl HO0.out)
      rintro e w16 ⟨v559, rfl, ho0, hb, hkp⟩
      refine ⟨_, rfl, ?_⟩
      replace BK557 := am (blk_kept (bz BK557.out) hkp (fun hs_ => (fun e_ => (Kd.R_ne HO0.out BK557.out (by decide)) e_) hs_))
      have HO560 := am (Kd.R_mono (ok' := fun k_ => (P0_ k_ ∨ w.heap.size ≤ k_) ∧ some k_ ≠ (v562 : Value).ownBlock) ho0 (fun k_ hk_ => ⟨Or.elim hk_ (fun hs_ => (HO0.out.1 k_ (hs_).symm).1) (fun hn_ => (.inr (Nat.le_trans (by first | exact HK.out.1 | exact (show Kept w _ (fun k_ => P0_ k_) from by repeat (first | (with_reducible first | exact HK.out | apply Kept.alloc | apply Kept.drewN | apply Kept.drew | refine Kept.setCell ?_ (.inr GW557.out) _) | exact HK.out)).1) hn_))), Or.elim hk_ (fun hs_ => fun e_ => (((HO563.out).1 k_ e_.symm).2) hs_) (fun hn_ => (Kd.fresh' (Kd.R_lt (rz HO563.out)) k_ hn_))⟩))
      replace HO563 := am (Kd.R_mono (ok' := fun k_ => (P0_ k_ ∨ w.heap.size ≤ k_) ∧ some k_ ≠ (v559 : Value).ownBlock) (Kd.R_keptB (HO563.out) hkp (fun k_ hk_ hs_ => (hk_.2) hs_)) (fun k_ hk_ => ⟨hk_.1.1.1, fun e_ => Or.elim (ho0.1 k_ e_.symm) (fun hs_ => hk_.2.1 hs_) (fun hn_ => Nat.not_le.2 hk_.2.2 hn_)⟩))
      replace HK := am (Kept.then_ (S := (fun k_ => P0_ k_)) (by repeat (first | (with_reducible first | exact HK.out | apply Kept.alloc | apply Kept.drewN | apply Kept.drew | refine Kept.setCell ?_ (.inr GW557.out) _) | exact HK.out)) hkp (fun k_ hs_ => (fun e_ => (HO0.out.1 k_ e_.symm).1) hs_))
      replace HB := am (hb)
      clear HO0
      (try clear hb)
      (try clear hkp)
      (try clear ho0)
      refine hK.out _ _ ⟨(blk_cell BK557.out 0).trans rfl, (blk_cell BK557.out 1).trans rfl, (blk_cell BK557.out 2).trans rfl, (blk_cell BK557.out 3).trans rfl, (blk_cell BK557.out 4).trans rfl⟩ (fun hHeld => ?_)
      clear hK K
      refine norm_ (a' := ?_) ?_ ?_
      rotate_left
      ·
       show Act.put _ (some 15) _ = _
       simp only [Act.put, List.setIfInBounds_toArray, List.set_cons_zero, List.set_cons_succ, i64_w, i32_w]
       rfl
      exact norm_ (by simp only [putAll, Act.put, List.setIfInBounds_toArray, List.set_cons_zero, List.set_cons_succ]) (hCont (v559, v562) _ ⟨hHeld, (rz HO560.out), (rz HO563.out), (bz BK557.out), (by repeat (first | (with_reducible first | exact HK.out | apply Kept.alloc | apply Kept.drewN | apply Kept.drew | refine Kept.setCell ?_ (.inr GW557.out) _) | exact HK.out)), (hz1 HB.out GE557.out)⟩)
    rintro ⟨v559, v562⟩ w17 ⟨hS_, h0_, h1_, h2_, h3_, h4_⟩
    have n0_ : Aside0 (Kd.R (Kd.int .u8) 5 w17 w0.heap.size (fun k_ => (P0_ k_ ∨ w.heap.size ≤ k_) ∧ some k_ ≠ (v562 : Value).ownBlock) v559 t558) := ⟨h0_⟩
    have n1_ : Aside0 (Kd.R (Kd.int .u8) 5 w17 w0.heap.size (fun k_ => (P0_ k_ ∨ w.heap.size ≤ k_) ∧ some k_ ≠ (v559 : Value).ownBlock) v562 y561) := ⟨h1_⟩
    have n2_ : Aside0 (w17.heap[gb557]? = some (.cells #[.int .i64 a1_0, .int .i64 a1_1, .int .i64 a1_2, .string a1_3, .slice A1_4 l1_4.length c1_4] 43 (0, 0))) := ⟨h2_⟩
    have n3_ : Aside0 (Kept w w17 (fun k_ => P0_ k_)) := ⟨h3_⟩
    have n4_ : Aside0 (Below w0.heap.size w0 w17) := ⟨h4_⟩
    clear HO0
    clear BK557
    clear HK
    clear HB
    clear h0_ h1_ h2_ h3_ h4_
    have HO560 := n0_
    have HO563 := n1_
    have BK557 := n2_
    have HK := n3_
    have HB := n4_
    clear n0_ n1_ n2_ n3_ n4_
    have hHeld : w17.cell? ⟨gb557, 0, none⟩ = some (.int .i64 a1_0) ∧ w17.cell? ⟨gb557, 1, none⟩ = some (.int .i64 a1_1) ∧ w17.cell? ⟨gb557, 2, none⟩ = some (.int .i64 a1_2) ∧ w17.cell? ⟨gb557, 3, none⟩ = some (.string a1_3) ∧ w17.cell? ⟨gb557, 4, none⟩ = some (.slice A1_4 l1_4.length c1_4) := hS_
    obtain ⟨Ao19, co19, eo19⟩ := Kd.R_slice HO563.out
    (first | subst eo19 | (injection eo19 with f1_ f2_ f3_; have f4_ := f1_.symm; have f5_ := f3_.symm; clear f1_ f2_ f3_; subst f4_; subst f5_))
    refine norm_ (a' := ?_) ?_ ?_
    rotate_left
    ·
     simp only [putAll, Act.put, List.setIfInBounds_toArray, List.set_cons_zero, List.set_cons_succ]
     rfl
    refine oz 9 20 HT_.out (fun K hK => ?_)
    refine Kd.R_append_rows_step (Kd.int .u8) (w0 := w0) w0.heap.size (by rfl) (.tmp 15) (.tmp 19) 24 5 (.int .u8 0) 1 rfl Tryd.underlying24 info5 rfl (by decide) (by omega) v559 t558 y561 _ _ _ (fun k_ => (P0_ k_ ∨ w.heap.size ≤ k_) ∧ some k_ ≠ (.slice Ao19 y561.length co19 : Value).ownBlock) (fun _ => False) rfl rfl ?aO ?aR (fun _ _ h => h) (fun _ h => h.elim) ?aF ?aB ?aS ?aL ?_
    (case aR => exact cz (Kd.R_reads' HO563.out).2.2)
    (case aB => exact (hz1 HB.out GE557.out))
    (case aF => exact (fun k_ hk => ⟨(.inr (Nat.le_trans (by first | exact HK.out.1 | exact (show Kept w _ (fun k_ => P0_ k_) from by repeat (first | (with_reducible first | exact HK.out | apply Kept.alloc | apply Kept.drewN | apply Kept.drew | refine Kept.setCell ?_ (.inr GW557.out) _) | exact HK.out)).1) hk)), Kd.fresh' (Kd.R_lt (rz HO563.out)) k_ hk⟩))
    (case aO => exact (rz HO560.out))
    (case aS => exact (below_size (hz1 HB.out GE557.out)))
    (case aL => have := LMc7.out; omega)
    intro v565 w18 ho hb hg hat
    rw [← Ny564.out] at ho
    replace BK557 := am (blk_grown (bz BK557.out) hg (Kd.R_ne HO560.out BK557.out (by decide)))
    replace HO563 := am (Kd.R_after (ok := (fun k_ => (P0_ k_ ∨ w.heap.size ≤ k_))) (rz HO563.out) hg hat)
    replace HB := am (hb)
    replace HK := am (Kept.of_grown (S := (fun k_ => P0_ k_)) hg (by repeat (first | (with_reducible first | exact HK.out | apply Kept.alloc | apply Kept.drewN | apply Kept.drew | refine Kept.setCell ?_ (.inr GW557.out) _) | exact HK.out)) (fun k_ e_ => (HO560.out.1 k_ e_).1))
    have HO566 := am (ho)
    clear HO560
    clear ho hb hg hat
    refine hK.out _ _ ⟨(blk_cell BK557.out 0).trans rfl, (blk_cell BK557.out 1).trans rfl, (blk_cell BK557.out 2).trans rfl, (blk_cell BK557.out 3).trans rfl, (blk_cell BK557.out 4).trans rfl⟩ (fun hHeld => ?_)
    clear hK K
    refine norm_ (a' := ?_) ?_ ?_
    rotate_left
    ·
     show Act.put _ (some 20) _ = _
     simp only [Act.put, List.setIfInBounds_toArray, List.set_cons_zero, List.set_cons_succ, i64_w, i32_w]
     rfl
    refine pz 10 0 HT_.out ?_
    refine done_ (done_of HT_.out (by kernel_rfl)) ?_
    have hcz20_0 : w18.cell? ⟨gb557, 0, none⟩ = some (.int .i64 a1_0) := (blk_cell BK557.out 0).trans rfl
    have hcz20_1 : w18.cell? ⟨gb557, 1, none⟩ = some (.int .i64 a1_1) := (blk_cell BK557.out 1).trans rfl
    have hcz20_2 : w18.cell? ⟨gb557, 2, none⟩ = some (.int .i64 a1_2) := (blk_cell BK557.out 2).trans rfl
    have hcz20_3 : w18.cell? ⟨gb557, 3, none⟩ = some (.string a1_3) := (blk_cell BK557.out 3).trans rfl
    have hcz20_4 : w18.cell? ⟨gb557, 4, none⟩ = some (.slice A1_4 l1_4.length c1_4) := (blk_cell BK557.out 4).trans rfl
    have hfz20_0 := blk_frozen BK557.out 0
    have hfz20_1 := blk_frozen BK557.out 1
    have hfz20_2 := blk_frozen BK557.out 2
    have hfz20_3 := blk_frozen BK557.out 3
    have hfz20_4 := blk_frozen BK557.out 4
    obtain ⟨Ao21, co21, eo21⟩ := Kd.R_slice HO566.out
    subst eo21
    try go_wp2_with (first | ((with_reducible refine gate_callee (f := 64) rfl ?_); refine goesL_ (some 40) rfl rfl Tryd.func64 (by kernel_rfl) rfl #[.slice Ao21 y564.length co21, .int .u64 (IntKind.u64.wrap ((IntKind.u64.wrap (2 * (IntKind.u64.wrap (wrap64 (-(wrap64 (a1_2 + 1))))))) + 1))] rfl lz ?_; (with_reducible refine (examboardref10_varint.calls k (fun k_ => some k_ = (.slice Ao21 y564.length co21 : Value).ownBlock) (.slice Ao21 y564.length co21) y564 (IntKind.u64.wrap ((IntKind.u64.wrap (2 * (IntKind.u64.wrap (wrap64 (-(wrap64 (a1_2 + 1))))))) + 1)) t567 w0 _ ?side1 ?side2 A10.out).mono ?_); (case side1 => exact hz1 HB.out GE557.out); (case side2 => exact Kd.R_tight rfl HO566.out); rintro e w22 ⟨v568, rfl, ho0, hb, hkp⟩; refine ⟨_, rfl, ?_⟩; replace BK557 := am (blk_kept (bz BK557.out) hkp (fun hs_ => (fun e_ => (Kd.R_ne HO566.out BK557.out (by decide)) e_) hs_)); have HO569 := am (Kd.R_mono (ok' := fun k_ => (P0_ k_ ∨ w.heap.size ≤ k_) ∧ some k_ ≠ (.slice Ao19 y561.length co19 : Value).ownBlock) ho0 (fun k_ hk_ => ⟨Or.elim hk_ (fun hs_ => (HO566.out.1 k_ (hs_).symm).1) (fun hn_ => (.inr (Nat.le_trans (by first | exact HK.out.1 | exact (show Kept w _ (fun k_ => P0_ k_) from by repeat (first | (with_reducible first | exact HK.out | apply Kept.alloc | apply Kept.drewN | apply Kept.drew | refine Kept.setCell ?_ (.inr GW557.out) _) | exact HK.out)).1) hn_))), Or.elim hk_ (fun hs_ => fun e_ => (((HO563.out).1 k_ e_.symm).2) hs_) (fun hn_ => (Kd.fresh' (Kd.R_lt (rz HO563.out)) k_ hn_))⟩)); replace HO563 := am (Kd.R_mono (ok' := fun k_ => (P0_ k_ ∨ w.heap.size ≤ k_) ∧ some k_ ≠ (v568 : Value).ownBlock) (Kd.R_keptB (HO563.out) hkp (fun k_ hk_ hs_ => (hk_.2) hs_)) (fun k_ hk_ => ⟨hk_.1.1, fun e_ => Or.elim (ho0.1 k_ e_.symm) (fun hs_ => hk_.2.1 hs_) (fun hn_ => Nat.not_le.2 hk_.2.2 hn_)⟩)); replace HK := am (Kept.then_ (S := (fun k_ => P0_ k_)) (by repeat (first | (with_reducible first | exact HK.out | apply Kept.alloc | apply Kept.drewN | apply Kept.drew | refine Kept.setCell ?_ (.inr GW557.out) _) | exact HK.out)) hkp (fun k_ hs_ => (fun e_ => (HO566.out.1 k_ e_.symm).1) hs_)); replace HB := am (hb); clear HO566; (try clear hb); (try clear hkp); (try clear ho0)))
    go_ret
    exact ⟨_, ew, by (with_reducible repeat (first | apply Kd.R_alloc | apply Kd.R_drewN | apply Kd.R_drew)); exact Kd.R_mono HO569.out (fun _ hk => hk.1), hz1 HB.out GE557.out, by repeat (first | (with_reducible first | exact HK.out | apply Kept.alloc | apply Kept.drewN | apply Kept.drew | refine Kept.setCell ?_ (.inr GW557.out) _) | exact HK.out)⟩
   ·
    rw [if_neg c9] at H
    have c9b0 : decide (a1_2 < 0) = false := decide_eq_false c9
    clear c9
    replace H := Option.bind_eq_some_iff.mp H
    obtain ⟨t570, A230, H⟩ := H
    try dsimp only at H
    have A23 := am A230
    clear A230
    obtain rfl := Option.some.inj H
    go_enter Tryd.func50, Tryd.ntmps50
    try go_wp2_with (first | ((with_reducible refine gate_dst (N := 3) rfl ?_); refine box_event rfl (N := 3) rfl (cs := #[.int .i64 a1_0, .int .i64 a1_1, .int .i64 a1_2, .string a1_3, .slice A1_4 l1_4.length c1_4]) (t := 43) gz ?_; intro gb557 hg w24 hbox hb; replace HO0 := am (Kd.R_below (rz HO0.out) hb); have BK557 := am (hbox); have GW557 := am ((by rw [hg]; exact (by first | exact HK.out.1 | exact (show Kept w _ (fun k_ => P0_ k_) from by repeat (first | (with_reducible first | exact HK.out | apply Kept.alloc | apply Kept.drewN | apply Kept.drew) | exact HK.out)).1) : w.heap.size ≤ gb557)); replace HK := am (Kept.below (S := (fun k_ => P0_ k_)) (by repeat (first | (with_reducible first | exact HK.out | apply Kept.alloc | apply Kept.drewN | apply Kept.drew) | exact HK.out)) hb); have GE557 := am ((bs hg (hz HB.out) : w0.heap.size ≤ gb557)); replace HB := am (below_step (hz HB.out) hb); clear hb hbox hg; obtain ⟨Ao25, co25, eo25⟩ := Kd.R_slice HO0.out; subst eo25))
    replace HO0 := am (Kd.R_drew HO0.out)
    replace BK557 := am (blk_drew BK557.out)
    replace HK := am (Kept.drew HK.out)
    replace HB := am (below_drew1 HB.out)
    refine start_ (n := 11) (S := fun w' => w'.cell? ⟨gb557, 0, none⟩ = some (.int .i64 a1_0) ∧ w'.cell? ⟨gb557, 1, none⟩ = some (.int .i64 a1_1) ∧ w'.cell? ⟨gb557, 2, none⟩ = some (.int .i64 a1_2) ∧ w'.cell? ⟨gb557, 3, none⟩ = some (.string a1_3) ∧ w'.cell? ⟨gb557, 4, none⟩ = some (.slice A1_4 l1_4.length c1_4)) (ds := []) #[false, false, false, false, false, false, false, false, false, false, false] (by kernel_rfl) rfl rfl ⟨(blk_cell BK557.out 0).trans rfl, (blk_cell BK557.out 1).trans rfl, (blk_cell BK557.out 2).trans rfl, (blk_cell BK557.out 3).trans rfl, (blk_cell BK557.out 4).trans rfl⟩ (fun hHeld => ?_); refine with_tabW examboardref10_write.tab3 examboardref10_write.bits3 (fun HT_ HW_ => ?_)
    generalize w24.drew = w26 at HO0 BK557 HK HB hHeld ⊢
    refine pz 0 11 HT_.out ?_
    refine pz 1 12 HT_.out ?_
    refine pz 5 16 HT_.out ?_
    refine take_ (i := 2) (N := some 13) (v := ?_) (a' := ?_) #[true, true, true, false, false, true, false, false, false, false, false] rfl rfl (take_ofW HT_.out HW_.out (by kernel_rfl)) (fun _ _ _ h => h) (Or.inl ⟨by rfl, ?_⟩) hHeld ?_ ?_
    rotate_left
    ·
     rintro w' ⟨s0, s1, s2, s3, s4⟩
     go_simp
     with_reducible rfl
    rotate_left
    ·
     simp only [Act.put, List.setIfInBounds_toArray, List.set_cons_zero, List.set_cons_succ, i64_w, i32_w]
     rfl
    refine pz 3 14 HT_.out ?_
    refine take_ (i := 6) (N := some 17) (v := ?_) (a' := ?_) #[true, true, true, true, false, true, true, false, false, false, false] rfl rfl (take_ofW HT_.out HW_.out (by kernel_rfl)) (fun _ _ _ h => h) (Or.inl ⟨by rfl, ?_⟩) hHeld ?_ ?_
    rotate_left
    ·
     rintro w' ⟨s0, s1, s2, s3, s4⟩
     go_simp
     with_reducible rfl
    rotate_left
    ·
     simp only [Act.put, List.setIfInBounds_toArray, List.set_cons_zero, List.set_cons_succ, i64_w, i32_w]
     rfl
    refine pz 7 18 HT_.out ?_
    refine join_ (σ := Value × Value) 2 #[true, true, true, true, true, true, true, true, true, false, false] (fun s_ => [(15, s_.1), (19, s_.2)]) (fun s_ w' => (w'.cell? ⟨gb557, 0, none⟩ = some (.int .i64 a1_0) ∧ w'.cell? ⟨gb557, 1, none⟩ = some (.int .i64 a1_1) ∧ w'.cell? ⟨gb557, 2, none⟩ = some (.int .i64 a1_2) ∧ w'.cell? ⟨gb557, 3, none⟩ = some (.string a1_3) ∧ w'.cell? ⟨gb557, 4, none⟩ = some (.slice A1_4 l1_4.length c1_4)) ∧ (Kd.R (Kd.int .u8) 5 w' w0.heap.size (fun k_ => (P0_ k_ ∨ w.heap.size ≤ k_) ∧ some k_ ≠ (s_.2 : Value).ownBlock) s_.1 t558) ∧ (Kd.R (Kd.int .u8) 5 w' w0.heap.size (fun k_ => (P0_ k_ ∨ w.heap.size ≤ k_) ∧ some k_ ≠ (s_.1 : Value).ownBlock) s_.2 y561) ∧ (w'.heap[gb557]? = some (.cells #[.int .i64 a1_0, .int .i64 a1_1, .int .i64 a1_2, .string a1_3, .slice A1_4 l1_4.length c1_4] 43 (0, 0))) ∧ (Kept w w' (fun k_ => P0_ k_)) ∧ (Below w0.heap.size w0 w')) ?_ ?_
    rotate_left
    ·
     intro hCont
     refine two_ (i := 4) (j := 8) (Ni := some 15) (Nj := some 19) #[true, true, true, true, true, true, true, true, false, false, false] #[true, true, true, true, false, true, true, true, true, false, false] rfl rfl rfl rfl (two_of HT_.out (by kernel_rfl)) (by decide) (by decide) (fun K hK => ?_) (fun K hK => ?_)
     ·
      skip
      refine goes_ Tryd.func64 (by kernel_rfl) rfl #[.slice Ao25 l0.length co25, .int .u64 (IntKind.u64.wrap (a1_0))] (by rfl) rfl rfl lz ?_
      with_reducible refine (examboardref10_varint.calls k (fun k_ => some k_ = (.slice Ao25 l0.length co25 : Value).ownBlock) (.slice Ao25 l0.length co25) l0 (IntKind.u64.wrap (a1_0)) t558 w0 _ ?side1 ?side2 A6.out).mono ?_
      (case side1 => exact hz1 HB.out GE557.out)
      (case side2 => exact Kd.R_tight rfl HO0.out)
      rintro e w27 ⟨v559, rfl, ho0, hb, hkp⟩
      refine ⟨_, rfl, ?_⟩
      replace BK557 := am (blk_kept (bz BK557.out) hkp (fun hs_ => (fun e_ => (Kd.R_ne HO0.out BK557.out (by decide)) e_) hs_))
      have HO560 := am (Kd.R_mono (ok' := fun k_ => (P0_ k_ ∨ w.heap.size ≤ k_)) ho0 (fun k_ hk_ => Or.elim hk_ (fun hs_ => (HO0.out.1 k_ (hs_).symm)) (fun hn_ => (.inr (Nat.le_trans (by first | exact HK.out.1 | exact (show Kept w _ (fun k_ => P0_ k_) from by repeat (first | (with_reducible first | exact HK.out | apply Kept.alloc | apply Kept.drewN | apply Kept.drew | refine Kept.setCell ?_ (.inr GW557.out) _) | exact HK.out)).1) hn_)))))
      replace HK := am (Kept.then_ (S := (fun k_ => P0_ k_)) (by repeat (first | (with_reducible first | exact HK.out | apply Kept.alloc | apply Kept.drewN | apply Kept.drew | refine Kept.setCell ?_ (.inr GW557.out) _) | exact HK.out)) hkp (fun k_ hs_ => (fun e_ => (HO0.out.1 k_ e_.symm)) hs_))
      replace HB := am (hb)
      clear HO0
      (try clear hb)
      (try clear hkp)
      (try clear ho0)
      refine hK.out _ _ ⟨(blk_cell BK557.out 0).trans rfl, (blk_cell BK557.out 1).trans rfl, (blk_cell BK557.out 2).trans rfl, (blk_cell BK557.out 3).trans rfl, (blk_cell BK557.out 4).trans rfl⟩ (fun hHeld => ?_)
      clear hK K
      refine norm_ (a' := ?_) ?_ ?_
      rotate_left
      ·
       show Act.put _ (some 15) _ = _
       simp only [Act.put, List.setIfInBounds_toArray, List.set_cons_zero, List.set_cons_succ, i64_w, i32_w]
       rfl
      refine oz 8 19 HT_.out (fun K hK => ?_)
      refine Kd.R_lit_step (Kd.int .u8) _ 5 ?hg (N := 19) ?hd (xs := ([(a1_1) % 256] : List Int)) (inner := [.int .u8 ((a1_1) % 256)]) (ok := fun _ => True) (okp := fun _ => True) ?hr ?hp (fun _ hk => hk) trivial (Below.refl _ _) (Nat.le_refl _) (by simp) ?_; (case hd => rfl); (case hg => rfl); (case hr => exact gz); (case hp => exact (Reps.one (show Kd.M (Kd.int .u8) _ _ _ ((a1_1) % 256) [.int .u8 ((a1_1) % 256)] from rfl) (Reps.none _ _)))
      intro v562 w28 ho29 hb hg_ hnew_
      clear hg_ hnew_
      (first | rw [← Ny561.out] at ho29 | (simp only [Int.reduceToNat] at ho29; rw [← Ny561.out] at ho29))
      have HO563 := am (Kd.R_lower (Kd.R_new' (Kd.R_newM (M := fun k_ => (P0_ k_ ∨ w.heap.size ≤ k_)) ho29 (by first | exact HK.out.1 | exact (show Kept w _ (fun k_ => P0_ k_) from by repeat (first | (with_reducible first | exact HK.out | apply Kept.alloc | apply Kept.drewN | apply Kept.drew | refine Kept.setCell ?_ (.inr GW557.out) _) | exact HK.out)).1) (fun k_ h_ => .inr h_)) (Kd.R_lt (rz HO560.out))) (below_size (hz1 HB.out GE557.out)))
      replace HO560 := am (Kd.R_elder' (rz HO560.out) (Kd.R_base ho29) hb)
      replace BK557 := am (blk_below (bz BK557.out) hb)
      replace HK := am (Kept.below (S := (fun k_ => P0_ k_)) (by repeat (first | (with_reducible first | exact HK.out | apply Kept.alloc | apply Kept.drewN | apply Kept.drew | refine Kept.setCell ?_ (.inr GW557.out) _) | exact HK.out)) hb)
      replace HB := am (below_step (hz1 HB.out GE557.out) hb)
      clear hb ho29
      refine hK.out _ _ ⟨(blk_cell BK557.out 0).trans rfl, (blk_cell BK557.out 1).trans rfl, (blk_cell BK557.out 2).trans rfl, (blk_cell BK557.out 3).trans rfl, (blk_cell BK557.out 4).trans rfl⟩ (fun hHeld => ?_)
      clear hK K
      refine norm_ (a' := ?_) ?_ ?_
      rotate_left
      ·
       show Act.put _ (some 19) _ = _
       simp only [Act.put, List.setIfInBounds_toArray, List.set_cons_zero, List.set_cons_succ, i64_w, i32_w]
       rfl
      exact norm_ (by simp only [putAll, Act.put, List.setIfInBounds_toArray, List.set_cons_zero, List.set_cons_succ]) (hCont (v559, v562) _ ⟨hHeld, (rz HO560.out), (rz (Kd.R_mono HO563.out (fun _ hk => ⟨hk.1.1, hk.2⟩))), (bz BK557.out), (by repeat (first | (with_reducible first | exact HK.out | apply Kept.alloc | apply Kept.drewN | apply Kept.drew | refine Kept.setCell ?_ (.inr GW557.out) _) | exact HK.out)), (hz1 HB.out GE557.out)⟩)
     ·
      skip
      refine Kd.R_lit_step (Kd.int .u8) _ 5 ?hg (N := 19) ?hd (xs := ([(a1_1) % 256] : List Int)) (inner := [.int .u8 ((a1_1) % 256)]) (ok := fun _ => True) (okp := fun _ => True) ?hr ?hp (fun _ hk => hk) trivial (Below.refl _ _) (Nat.le_refl _) (by simp) ?_; (case hd => rfl); (case hg => rfl); (case hr => exact gz); (case hp => exact (Reps.one (show Kd.M (Kd.int .u8) _ _ _ ((a1_1) % 256) [.int .u8 ((a1_1) % 256)] from rfl) (Reps.none _ _)))
      intro v562 w27 ho28 hb hg_ hnew_
      clear hg_ hnew_
      (first | rw [← Ny561.out] at ho28 | (simp only [Int.reduceToNat] at ho28; rw [← Ny561.out] at ho28))
      have HO563 := am (Kd.R_lower (Kd.R_new' (Kd.R_newM (M := fun k_ => (P0_ k_ ∨ w.heap.size ≤ k_)) ho28 (by first | exact HK.out.1 | exact (show Kept w _ (fun k_ => P0_ k_) from by repeat (first | (with_reducible first | exact HK.out | apply Kept.alloc | apply Kept.drewN | apply Kept.drew | refine Kept.setCell ?_ (.inr GW557.out) _) | exact HK.out)).1) (fun k_ h_ => .inr h_)) (Kd.R_lt (rz HO0.out))) (below_size (hz1 HB.out GE557.out)))
      replace HO0 := am (Kd.R_elder' (rz HO0.out) (Kd.R_base ho28) hb)
      replace BK557 := am (blk_below (bz BK557.out) hb)
      replace HK := am (Kept.below (S := (fun k_ => P0_ k_)) (by repeat (first | (with_reducible first | exact HK.out | apply Kept.alloc | apply Kept.drewN | apply Kept.drew | refine Kept.setCell ?_ (.inr GW557.out) _) | exact HK.out)) hb)
      replace HB := am (below_step (hz1 HB.out GE557.out) hb)
      clear hb ho28
      refine hK.out _ _ ⟨(blk_cell BK557.out 0).trans rfl, (blk_cell BK557.out 1).trans rfl, (blk_cell BK557.out 2).trans rfl, (blk_cell BK557.out 3).trans rfl, (blk_cell BK557.out 4).trans rfl⟩ (fun hHeld => ?_)
      clear hK K
      refine norm_ (a' := ?_) ?_ ?_
      rotate_left
      ·
       show Act.put _ (some 19) _ = _
       simp only [Act.put, List.setIfInBounds_toArray, List.set_cons_zero, List.set_cons_succ, i64_w, i32_w]
       rfl
      refine oz 4 15 HT_.out (fun K hK => ?_)
      refine goes_ Tryd.func64 (by kernel_rfl) rfl #[.slice Ao25 l0.length co25, .int .u64 (IntKind.u64.wrap (a1_0))] (by rfl) rfl rfl lz ?_
      with_reducible refine (examboardref10_varint.calls k (fun k_ => some k_ = (.slice Ao25 l0.length co25 : Value).ownBlock) (.slice Ao25 l0.length co25) l0 (IntKind.u64.wrap (a1_0)) t558 w0 _ ?side1 ?side2 A6.out).mono ?_
      (case side1 => exact hz1 HB.out GE557.out)
      (case side2 => exact Kd.R_tight rfl HO0.out)
      rintro e w29 ⟨v559, rfl, ho0, hb, hkp⟩
      refine ⟨_, rfl, ?_⟩
      replace BK557 := am (blk_kept (bz BK557.out) hkp (fun hs_ => (fun e_ => (Kd.R_ne HO0.out BK557.out (by decide)) e_) hs_))
      have HO560 := am (Kd.R_mono (ok' := fun k_ => (P0_ k_ ∨ w.heap.size ≤ k_) ∧ some k_ ≠ (v562 : Value).ownBlock) ho0 (fun k_ hk_ => ⟨Or.elim hk_ (fun hs_ => (HO0.out.1 k_ (hs_).symm).1) (fun hn_ => (.inr (Nat.le_trans (by first | exact HK.out.1 | exact (show Kept w _ (fun k_ => P0_ k_) from by repeat (first | (with_reducible first | exact HK.out | apply Kept.alloc | apply Kept.drewN | apply Kept.drew | refine Kept.setCell ?_ (.inr GW557.out) _) | exact HK.out)).1) hn_))), Or.elim hk_ (fun hs_ => fun e_ => (((HO563.out).1 k_ e_.symm).2) hs_) (fun hn_ => (Kd.fresh' (Kd.R_lt (rz HO563.out)) k_ hn_))⟩))
      replace HO563 := am (Kd.R_mono (ok' := fun k_ => (P0_ k_ ∨ w.heap.size ≤ k_) ∧ some k_ ≠ (v559 : Value).ownBlock) (Kd.R_keptB (HO563.out) hkp (fun k_ hk_ hs_ => (hk_.2) hs_)) (fun k_ hk_ => ⟨hk_.1.1.1, fun e_ => Or.elim (ho0.1 k_ e_.symm) (fun hs_ => hk_.2.1 hs_) (fun hn_ => Nat.not_le.2 hk_.2.2 hn_)⟩))
      replace HK := am (Kept.then_ (S := (fun k_ => P0_ k_)) (by repeat (first | (with_reducible first | exact HK.out | apply Kept.alloc | apply Kept.drewN | apply Kept.drew | refine Kept.setCell ?_ (.inr GW557.out) _) | exact HK.out)) hkp (fun k_ hs_ => (fun e_ => (HO0.out.1 k_ e_.symm).1) hs_))
      replace HB := am (hb)
      clear HO0
      (try clear hb)
      (try clear hkp)
      (try clear ho0)
      refine hK.out _ _ ⟨(blk_cell BK557.out 0).trans rfl, (blk_cell BK557.out 1).trans rfl, (blk_cell BK557.out 2).trans rfl, (blk_cell BK557.out 3).trans rfl, (blk_cell BK557.out 4).trans rfl⟩ (fun hHeld => ?_)
      clear hK K
      refine norm_ (a' := ?_) ?_ ?_
      rotate_left
      ·
       show Act.put _ (some 15) _ = _
       simp only [Act.put, List.setIfInBounds_toArray, List.set_cons_zero, List.set_cons_succ, i64_w, i32_w]
       rfl
      exact norm_ (by simp only [putAll, Act.put, List.setIfInBounds_toArray, List.set_cons_zero, List.set_cons_succ]) (hCont (v559, v562) _ ⟨hHeld, (rz HO560.out), (rz HO563.out), (bz BK557.out), (by repeat (first | (with_reducible first | exact HK.out | apply Kept.alloc | apply Kept.drewN | apply Kept.drew | refine Kept.setCell ?_ (.inr GW557.out) _) | exact HK.out)), (hz1 HB.out GE557.out)⟩)
    rintro ⟨v559, v562⟩ w30 ⟨hS_, h0_, h1_, h2_, h3_, h4_⟩
    have n0_ : Aside0 (Kd.R (Kd.int .u8) 5 w30 w0.heap.size (fun k_ => (P0_ k_ ∨ w.heap.size ≤ k_) ∧ some k_ ≠ (v562 : Value).ownBlock) v559 t558) := ⟨h0_⟩
    have n1_ : Aside0 (Kd.R (Kd.int .u8) 5 w30 w0.heap.size (fun k_ => (P0_ k_ ∨ w.heap.size ≤ k_) ∧ some k_ ≠ (v559 : Value).ownBlock) v562 y561) := ⟨h1_⟩
    have n2_ : Aside0 (w30.heap[gb557]? = some (.cells #[.int .i64 a1_0, .int .i64 a1_1, .int .i64 a1_2, .string a1_3, .slice A1_4 l1_4.length c1_4] 43 (0, 0))) := ⟨h2_⟩
    have n3_ : Aside0 (Kept w w30 (fun k_ => P0_ k_)) := ⟨h3_⟩
    have n4_ : Aside0 (Below w0.heap.size w0 w30) := ⟨h4_⟩
    clear HO0
    clear BK557
    clear HK
    clear HB
    clear h0_ h1_ h2_ h3_ h4_
    have HO560 := n0_
    have HO563 := n1_
    have BK557 := n2_
    have HK := n3_
    have HB := n4_
    clear n0_ n1_ n2_ n3_ n4_
    have hHeld : w30.cell? ⟨gb557, 0, none⟩ = some (.int .i64 a1_0) ∧ w30.cell? ⟨gb557, 1, none⟩ = some (.int .i64 a1_1) ∧ w30.cell? ⟨gb557, 2, none⟩ = some (.int .i64 a1_2) ∧ w30.cell? ⟨gb557, 3, none⟩ = some (.string a1_3) ∧ w30.cell? ⟨gb557, 4, none⟩ = some (.slice A1_4 l1_4.length c1_4) := hS_
    obtain ⟨Ao32, co32, eo32⟩ := Kd.R_slice HO563.out
    (first | subst eo32 | (injection eo32 with f1_ f2_ f3_; have f4_ := f1_.symm; have f5_ := f3_.symm; clear f1_ f2_ f3_; subst f4_; subst f5_))
    refine norm_ (a' := ?_) ?_ ?_
    rotate_left
    ·
     simp only [putAll, Act.put, List.setIfInBounds_toArray, List.set_cons_zero, List.set_cons_succ]
     rfl
    refine oz 9 20 HT_.out (fun K hK => ?_)
    refine Kd.R_append_rows_step (Kd.int .u8) (w0 := w0) w0.heap.size (by rfl) (.tmp 15) (.tmp 19) 24 5 (.int .u8 0) 1 rfl Tryd.underlying24 info5 rfl (by decide) (by omega) v559 t558 y561 _ _ _ (fun k_ => (P0_ k_ ∨ w.heap.size ≤ k_) ∧ some k_ ≠ (.slice Ao32 y561.length co32 : Value).ownBlock) (fun _ => False) rfl rfl ?aO ?aR (fun _ _ h => h) (fun _ h => h.elim) ?aF ?aB ?aS ?aL ?_
    (case aR => exact cz (Kd.R_reads' HO563.out).2.2)
    (case aB => exact (hz1 HB.out GE557.out))
    (case aF => exact (fun k_ hk => ⟨(.inr (Nat.le_trans (by first | exact HK.out.1 | exact (show Kept w _ (fun k_ => P0_ k_) from by repeat (first | (with_reducible first | exact HK.out | apply Kept.alloc | apply Kept.drewN | apply Kept.drew | refine Kept.setCell ?_ (.inr GW557.out) _) | exact HK.out)).1) hk)), Kd.fresh' (Kd.R_lt (rz HO563.out)) k_ hk⟩))
    (case aO => exact (rz HO560.out))
    (case aS => exact (below_size (hz1 HB.out GE557.out)))
    (case aL => have := LMc7.out; omega)
    intro v565 w31 ho hb hg hat
    rw [← Ny564.out] at ho
    replace BK557 := am (blk_grown (bz BK557.out) hg (Kd.R_ne HO560.out BK557.out (by decide)))
    replace HO563 := am (Kd.R_after (ok := (fun k_ => (P0_ k_ ∨ w.heap.size ≤ k_))) (rz HO563.out) hg hat)
    replace HB := am (hb)
    replace HK := am (Kept.of_grown (S := (fun k_ => P0_ k_)) hg (by repeat (first | (with_reducible first | exact HK.out | apply Kept.alloc | apply Kept.drewN | apply Kept.drew | refine Kept.setCell ?_ (.inr GW557.out) _) | exact HK.out)) (fun k_ e_ => (HO560.out.1 k_ e_).1))
    have HO566 := am (ho)
    clear HO560
    clear ho hb hg hat
    refine hK.out _ _ ⟨(blk_cell BK557.out 0).trans rfl, (blk_cell BK557.out 1).trans rfl, (blk_cell BK557.out 2).trans rfl, (blk_cell BK557.out 3).trans rfl, (blk_cell BK557.out 4).trans rfl⟩ (fun hHeld => ?_)
    clear hK K
    refine norm_ (a' := ?_) ?_ ?_
    rotate_left
    ·
     show Act.put _ (some 20) _ = _
     simp only [Act.put, List.setIfInBounds_toArray, List.set_cons_zero, List.set_cons_succ, i64_w, i32_w]
     rfl
    refine pz 10 0 HT_.out ?_
    refine done_ (done_of HT_.out (by kernel_rfl)) ?_
    have hcz33_0 : w31.cell? ⟨gb557, 0, none⟩ = some (.int .i64 a1_0) := (blk_cell BK557.out 0).trans rfl
    have hcz33_1 : w31.cell? ⟨gb557, 1, none⟩ = some (.int .i64 a1_1) := (blk_cell BK557.out 1).trans rfl
    have hcz33_2 : w31.cell? ⟨gb557, 2, none⟩ = some (.int .i64 a1_2) := (blk_cell BK557.out 2).trans rfl
    have hcz33_3 : w31.cell? ⟨gb557, 3, none⟩ = some (.string a1_3) := (blk_cell BK557.out 3).trans rfl
    have hcz33_4 : w31.cell? ⟨gb557, 4, none⟩ = some (.slice A1_4 l1_4.length c1_4) := (blk_cell BK557.out 4).trans rfl
    have hfz33_0 := blk_frozen BK557.out 0
    have hfz33_1 := blk_frozen BK557.out 1
    have hfz33_2 := blk_frozen BK557.out 2
    have hfz33_3 := blk_frozen BK557.out 3
    have hfz33_4 := blk_frozen BK557.out 4
    obtain ⟨Ao34, co34, eo34⟩ := Kd.R_slice HO566.out
    subst eo34
    try go_wp2_with (first | ((with_reducible refine gate_callee (f := 64) rfl ?_); refine goesL_ (some 40) rfl rfl Tryd.func64 (by kernel_rfl) rfl #[.slice Ao34 y564.length co34, .int .u64 (IntKind.u64.wrap (2 * (IntKind.u64.wrap (a1_2))))] rfl lz ?_; (with_reducible refine (examboardref10_varint.calls k (fun k_ => some k_ = (.slice Ao34 y564.length co34 : Value).ownBlock) (.slice Ao34 y564.length co34) y564 (IntKind.u64.wrap (2 * (IntKind.u64.wrap (a1_2)))) t570 w0 _ ?side1 ?side2 A23.out).mono ?_); (case side1 => exact hz1 HB.out GE557.out); (case side2 => exact Kd.R_tight rfl HO566.out); rintro e w35 ⟨v571, rfl, ho0, hb, hkp⟩; refine ⟨_, rfl, ?_⟩; replace BK557 := am (blk_kept (bz BK557.out) hkp (fun hs_ => (fun e_ => (Kd.R_ne HO566.out BK557.out (by decide)) e_) hs_)); have HO572 := am (Kd.R_mono (ok' := fun k_ => (P0_ k_ ∨ w.heap.size ≤ k_) ∧ some k_ ≠ (.slice Ao32 y561.length co32 : Value).ownBlock) ho0 (fun k_ hk_ => ⟨Or.elim hk_ (fun hs_ => (HO566.out.1 k_ (hs_).symm).1) (fun hn_ => (.inr (Nat.le_trans (by first | exact HK.out.1 | exact (show Kept w _ (fun k_ => P0_ k_) from by repeat (first | (with_reducible first | exact HK.out | apply Kept.alloc | apply Kept.drewN | apply Kept.drew | refine Kept.setCell ?_ (.inr GW557.out) _) | exact HK.out)).1) hn_))), Or.elim hk_ (fun hs_ => fun e_ => (((HO563.out).1 k_ e_.symm).2) hs_) (fun hn_ => (Kd.fresh' (Kd.R_lt (rz HO563.out)) k_ hn_))⟩)); replace HO563 := am (Kd.R_mono (ok' := fun k_ => (P0_ k_ ∨ w.heap.size ≤ k_) ∧ some k_ ≠ (v571 : Value).ownBlock) (Kd.R_keptB (HO563.out) hkp (fun k_ hk_ hs_ => (hk_.2) hs_)) (fun k_ hk_ => ⟨hk_.1.1, fun e_ => Or.elim (ho0.1 k_ e_.symm) (fun hs_ => hk_.2.1 hs_) (fun hn_ => Nat.not_le.2 hk_.2.2 hn_)⟩)); replace HK := am (Kept.then_ (S := (fun k_ => P0_ k_)) (by repeat (first | (with_reducible first | exact HK.out | apply Kept.alloc | apply Kept.drewN | apply Kept.drew | refine Kept.setCell ?_ (.inr GW557.out) _) | exact HK.out)) hkp (fun k_ hs_ => (fun e_ => (HO566.out.1 k_ e_.symm).1) hs_)); replace HB := am (hb); clear HO566; (try clear hb); (try clear hkp); (try clear ho0)))
    go_ret
    exact ⟨_, ew, by (with_reducible repeat (first | apply Kd.R_alloc | apply Kd.R_drewN | apply Kd.R_drew)); exact Kd.R_mono HO572.out (fun _ hk => hk.1), hz1 HB.out GE557.out, by repeat (first | (with_reducible first | exact HK.out | apply Kept.alloc | apply Kept.drewN | apply Kept.drew | refine Kept.setCell ?_ (.inr GW557.out) _) | exact HK.out)⟩
  ·
   rw [if_neg c8] at H
   have c8b0 : (a1_1 == 1) = false := beq_eq_false_iff_ne.mpr c8
   have c8b1 : (a1_1 != 1) = true := bne_iff_ne.mpr c8
   by_cases c36 : a1_1 = 2
   ·
    rw [if_pos c36] at H
    have c36b0 : (a1_1 == 2) = true := beq_iff_eq.mpr c36
    have c36b1 : (a1_1 != 2) = false := bne_eq_false_iff_eq.mpr c36
    clear c36
    replace H := Option.bind_eq_some_iff.mp H
    obtain ⟨t573, A370, H⟩ := H
    try dsimp only at H
    have A37 := am A370
    clear A370
    replace H := it_ H
    obtain ⟨c38, H⟩ := H
    have LMc38 := am c38
    clear c38
    obtain ⟨y576, hy576⟩ : ∃ y_ : List Int, y_ = (t573 ++ bytesOf a1_3) := ⟨_, rfl⟩
    replace H : (some y576) = some r := by first | (rw [hy576]; with_reducible exact H) | (have H2_ := (Option.bind_some _ _).symm.trans H; rw [hy576]; with_reducible exact H2_) | (have H2_ := (Option.bind_some _ _).symm.trans H; with_reducible exact H2_) | with_reducible exact H | (rw [hy576]; exact H) | exact H
    have Ny576 := am hy576
    clear hy576
    obtain rfl := Option.some.inj H
    go_enter Tryd.func50, Tryd.ntmps50
    try go_wp2_with (first | ((with_reducible refine gate_dst (N := 3) rfl ?_); refine box_event rfl (N := 3) rfl (cs := #[.int .i64 a1_0, .int .i64 a1_1, .int .i64 a1_2, .string a1_3, .slice A1_4 l1_4.length c1_4]) (t := 43) gz ?_; intro gb557 hg w39 hbox hb; replace HO0 := am (Kd.R_below (rz HO0.out) hb); have BK557 := am (hbox); have GW557 := am ((by rw [hg]; exact (by first | exact HK.out.1 | exact (show Kept w _ (fun k_ => P0_ k_) from by repeat (first | (with_reducible first | exact HK.out | apply Kept.alloc | apply Kept.drewN | apply Kept.drew) | exact HK.out)).1) : w.heap.size ≤ gb557)); replace HK := am (Kept.below (S := (fun k_ => P0_ k_)) (by repeat (first | (with_reducible first | exact HK.out | apply Kept.alloc | apply Kept.drewN | apply Kept.drew) | exact HK.out)) hb); have GE557 := am ((bs hg (hz HB.out) : w0.heap.size ≤ gb557)); replace HB := am (below_step (hz HB.out) hb); clear hb hbox hg; obtain ⟨Ao40, co40, eo40⟩ := Kd.R_slice HO0.out; subst eo40))
    replace HO0 := am (Kd.R_drew HO0.out)
    replace BK557 := am (blk_drew BK557.out)
    replace HK := am (Kept.drew HK.out)
    replace HB := am (below_drew1 HB.out)
    refine start_ (n := 11) (S := fun w' => w'.cell? ⟨gb557, 0, none⟩ = some (.int .i64 a1_0) ∧ w'.cell? ⟨gb557, 1, none⟩ = some (.int .i64 a1_1) ∧ w'.cell? ⟨gb557, 2, none⟩ = some (.int .i64 a1_2) ∧ w'.cell? ⟨gb557, 3, none⟩ = some (.string a1_3) ∧ w'.cell? ⟨gb557, 4, none⟩ = some (.slice A1_4 l1_4.length c1_4)) (ds := []) #[false, false, false, false, false, false, false, false, false, false, false] (by kernel_rfl) rfl rfl ⟨(blk_cell BK557.out 0).trans rfl, (blk_cell BK557.out 1).trans rfl, (blk_cell BK557.out 2).trans rfl, (blk_cell BK557.out 3).trans rfl, (blk_cell BK557.out 4).trans rfl⟩ (fun hHeld => ?_); refine with_tabW examboardref10_write.tab3 examboardref10_write.bits3 (fun HT_ HW_ => ?_)
    generalize w39.drew = w41 at HO0 BK557 HK HB hHeld ⊢
    refine pz 0 11 HT_.out ?_
    refine pz 1 12 HT_.out ?_
    refine pz 5 16 HT_.out ?_
    refine take_ (i := 2) (N := some 13) (v := ?_) (a' := ?_) #[true, true, true, false, false, true, false, false, false, false, false] rfl rfl (take_ofW HT_.out HW_.out (by kernel_rfl)) (fun _ _ _ h => h) (Or.inl ⟨by rfl, ?_⟩) hHeld ?_ ?_
    rotate_left
    ·
     rintro w' ⟨s0, s1, s2, s3, s4⟩
     go_simp
     with_reducible rfl
    rotate_left
    ·
     simp only [Act.put, List.setIfInBounds_toArray, List.set_cons_zero, List.set_cons_succ, i64_w, i32_w]
     rfl
    refine pz 3 14 HT_.out ?_
    refine take_ (i := 6) (N := some 17) (v := ?_) (a' := ?_) #[true, true, true, true, false, true, true, false, false, false, false] rfl rfl (take_ofW HT_.out HW_.out (by kernel_rfl)) (fun _ _ _ h => h) (Or.inl ⟨by rfl, ?_⟩) hHeld ?_ ?_
    rotate_left
    ·
     rintro w' ⟨s0, s1, s2, s3, s4⟩
     go_simp
     with_reducible rfl
    rotate_left
    ·
     simp only [Act.put, List.setIfInBounds_toArray, List.set_cons_zero, List.set_cons_succ, i64_w, i32_w]
     rfl
    refine pz 7 18 HT_.out ?_
    refine join_ (σ := Value × Value) 2 #[true, true, true, true, true, true, true, true, true, false, false] (fun s_ => [(15, s_.1), (19, s_.2)]) (fun s_ w' => (w'.cell? ⟨gb557, 0, none⟩ = some (.int .i64 a1_0) ∧ w'.cell? ⟨gb557, 1, none⟩ = some (.int .i64 a1_1) ∧ w'.cell? ⟨gb557, 2, none⟩ = some (.int .i64 a1_2) ∧ w'.cell? ⟨gb557, 3, none⟩ = some (.string a1_3) ∧ w'.cell? ⟨gb557, 4, none⟩ = some (.slice A1_4 l1_4.length c1_4)) ∧ (Kd.R (Kd.int .u8) 5 w' w0.heap.size (fun k_ => (P0_ k_ ∨ w.heap.size ≤ k_) ∧ some k_ ≠ (s_.2 : Value).ownBlock) s_.1 t558) ∧ (Kd.R (Kd.int .u8) 5 w' w0.heap.size (fun k_ => (P0_ k_ ∨ w.heap.size ≤ k_) ∧ some k_ ≠ (s_.1 : Value).ownBlock) s_.2 y561) ∧ (w'.heap[gb557]? = some (.cells #[.int .i64 a1_0, .int .i64 a1_1, .int .i64 a1_2, .string a1_3, .slice A1_4 l1_4.length c1_4] 43 (0, 0))) ∧ (Kept w w' (fun k_ => P0_ k_)) ∧ (Below w0.heap.size w0 w')) ?_ ?_
    rotate_left
    ·
     intro hCont
     refine two_ (i := 4) (j := 8) (Ni := some 15) (Nj := some 19) #[true, true, true, true, true, true, true, true, false, false, false] #[true, true, true, true, false, true, true, true, true, false, false] rfl rfl rfl rfl (two_of HT_.out (by kernel_rfl)) (by decide) (by decide) (fun K hK => ?_) (fun K hK => ?_)
     ·
      skip
      refine goes_ Tryd.func64 (by kernel_rfl) rfl #[.slice Ao40 l0.length co40, .int .u64 (IntKind.u64.wrap (a1_0))] (by rfl) rfl rfl lz ?_
      with_reducible refine (examboardref10_varint.calls k (fun k_ => some k_ = (.slice Ao40 l0.length co40 : Value).ownBlock) (.slice Ao40 l0.length co40) l0 (IntKind.u64.wrap (a1_0)) t558 w0 _ ?side1 ?side2 A6.out).mono ?_
      (case side1 => exact hz1 HB.out GE557.out)
      (case side2 => exact Kd.R_tight rfl HO0.out)
      rintro e w42 ⟨v559, rfl, ho0, hb, hkp⟩
      refine ⟨_, rfl, ?_⟩
      replace BK557 := am (blk_kept (bz BK557.out) hkp (fun hs_ => (fun e_ => (Kd.R_ne HO0.out BK557.out (by decide)) e_) hs_))
      have HO560 := am (Kd.R_mono (ok' := fun k_ => (P0_ k_ ∨ w.heap.size ≤ k_)) ho0 (fun k_ hk_ => Or.elim hk_ (fun hs_ => (HO0.out.1 k_ (hs_).symm)) (fun hn_ => (.inr (Nat.le_trans (by first | exact HK.out.1 | exact (show Kept w _ (fun k_ => P0_ k_) from by repeat (first | (with_reducible first | exact HK.out | apply Kept.alloc | apply Kept.drewN | apply Kept.drew | refine Kept.setCell ?_ (.inr GW557.out) _) | exact HK.out)).1) hn_)))))
      replace HK := am (Kept.then_ (S := (fun k_ => P0_ k_)) (by repeat (first | (with_reducible first | exact HK.out | apply Kept.alloc | apply Kept.drewN | apply Kept.drew | refine Kept.setCell ?_ (.inr GW557.out) _) | exact HK.out)) hkp (fun k_ hs_ => (fun e_ => (HO0.out.1 k_ e_.symm)) hs_))
      replace HB := am (hb)
      clear HO0
      (try clear hb)
      (try clear hkp)
      (try clear ho0)
      refine hK.out _ _ ⟨(blk_cell BK557.out 0).trans rfl, (blk_cell BK557.out 1).trans rfl, (blk_cell BK557.out 2).trans rfl, (blk_cell BK557.out 3).trans rfl, (blk_cell BK557.out 4).trans rfl⟩ (fun hHeld => ?_)
      clear hK K
      refine norm_ (a' := ?_) ?_ ?_
      rotate_left
      ·
       show Act.put _ (some 15) _ = _
       simp only [Act.put, List.setIfInBounds_toArray, List.set_cons_zero, List.set_cons_succ, i64_w, i32_w]
       rfl
      refine oz 8 19 HT_.out (fun K hK => ?_)
      refine Kd.R_lit_step (Kd.int .u8) _ 5 ?hg (N := 19) ?hd (xs := ([(a1_1) % 256] : List Int)) (inner := [.int .u8 ((a1_1) % 256)]) (ok := fun _ => True) (okp := fun _ => True) ?hr ?hp (fun _ hk => hk) trivial (Below.refl _ _) (Nat.le_refl _) (by simp) ?_; (case hd => rfl); (case hg => rfl); (case hr => exact gz); (case hp => exact (Reps.one (show Kd.M (Kd.int .u8) _ _ _ ((a1_1) % 256) [.int .u8 ((a1_1) % 256)] from rfl) (Reps.none _ _)))
      intro v562 w43 ho44 hb hg_ hnew_
      clear hg_ hnew_
      (first | rw [← Ny561.out] at ho44 | (simp only [Int.reduceToNat] at ho44; rw [← Ny561.out] at ho44))
      have HO563 := am (Kd.R_lower (Kd.R_new' (Kd.R_newM (M := fun k_ => (P0_ k_ ∨ w.heap.size ≤ k_)) ho44 (by first | exact HK.out.1 | exact (show Kept w _ (fun k_ => P0_ k_) from by repeat (first | (with_reducible first | exact HK.out | apply Kept.alloc | apply Kept.drewN | apply Kept.drew | refine Kept.setCell ?_ (.inr GW557.out) _) | exact HK.out)).1) (fun k_ h_ => .inr h_)) (Kd.R_lt (rz HO560.out))) (below_size (hz1 HB.out GE557.out)))
      replace HO560 := am (Kd.R_elder' (rz HO560.out) (Kd.R_base ho44) hb)
      replace BK557 := am (blk_below (bz BK557.out) hb)
      replace HK := am (Kept.below (S := (fun k_ => P0_ k_)) (by repeat (first | (with_reducible first | exact HK.out | apply Kept.alloc | apply Kept.drewN | apply Kept.drew | refine Kept.setCell ?_ (.inr GW557.out) _) | exact HK.out)) hb)
      replace HB := am (below_step (hz1 HB.out GE557.out) hb)
      clear hb ho44
      refine hK.out _ _ ⟨(blk_cell BK557.out 0).trans rfl, (blk_cell BK557.out 1).trans rfl, (blk_cell BK557.out 2).trans rfl, (blk_cell BK557.out 3).trans rfl, (blk_cell BK557.out 4).trans rfl⟩ (fun hHeld => ?_)
      clear hK K
      refine norm_ (a' := ?_) ?_ ?_
      rotate_left
      ·
       show Act.put _ (some 19) _ = _
       simp only [Act.put, List.setIfInBounds_toArray, List.set_cons_zero, List.set_cons_succ, i64_w, i32_w]
       rfl
      exact norm_ (by simp only [putAll, Act.put, List.setIfInBounds_toArray, List.set_cons_zero, List.set_cons_succ]) (hCont (v559, v562) _ ⟨hHeld, (rz HO560.out), (rz (Kd.R_mono HO563.out (fun _ hk => ⟨hk.1.1, hk.2⟩))), (bz BK557.out), (by repeat (first | (with_reducible first | exact HK.out | apply Kept.alloc | apply Kept.drewN | apply Kept.drew | refine Kept.setCell ?_ (.inr GW557.out) _) | exact HK.out)), (hz1 HB.out GE557.out)⟩)
     ·
      skip
      refine Kd.R_lit_step (Kd.int .u8) _ 5 ?hg (N := 19) ?hd (xs := ([(a1_1) % 256] : List Int)) (inner := [.int .u8 ((a1_1) % 256)]) (ok := fun _ => True) (okp := fun _ => True) ?hr ?hp (fun _ hk => hk) trivial (Below.refl _ _) (Nat.le_refl _) (by simp) ?_; (case hd => rfl); (case hg => rfl); (case hr => exact gz); (case hp => exact (Reps.one (show Kd.M (Kd.int .u8) _ _ _ ((a1_1) % 256) [.int .u8 ((a1_1) % 256)] from rfl) (Reps.none _ _)))
      intro v562 w42 ho43 hb hg_ hnew_
      clear hg_ hnew_
      (first | rw [← Ny561.out] at ho43 | (simp only [Int.reduceToNat] at ho43; rw [← Ny561.out] at ho43))
      have HO563 := am (Kd.R_lower (Kd.R_new' (Kd.R_newM (M := fun k_ => (P0_ k_ ∨ w.heap.size ≤ k_)) ho43 (by first | exact HK.out.1 | exact (show Kept w _ (fun k_ => P0_ k_) from by repeat (first | (with_reducible first | exact HK.out | apply Kept.alloc | apply Kept.drewN | apply Kept.drew | refine Kept.setCell ?_ (.inr GW557.out) _) | exact HK.out)).1) (fun k_ h_ => .inr h_)) (Kd.R_lt (rz HO0.out))) (below_size (hz1 HB.out GE557.out)))
      replace HO0 := am (Kd.R_elder' (rz HO0.out) (Kd.R_base ho43) hb)
      replace BK557 := am (blk_below (bz BK557.out) hb)
      replace HK := am (Kept.below (S := (fun k_ => P0_ k_)) (by repeat (first | (with_reducible first | exact HK.out | apply Kept.alloc | apply Kept.drewN | apply Kept.drew | refine Kept.setCell ?_ (.inr GW557.out) _) | exact HK.out)) hb)
      replace HB := am (below_step (hz1 HB.out GE557.out) hb)
      clear hb ho43
      refine hK.out _ _ ⟨(blk_cell BK557.out 0).trans rfl, (blk_cell BK557.out 1).trans rfl, (blk_cell BK557.out 2).trans rfl, (blk_cell BK557.out 3).trans rfl, (blk_cell BK557.out 4).trans rfl⟩ (fun hHeld => ?_)
      clear hK K
      refine norm_ (a' := ?_) ?_ ?_
      rotate_left
      ·
       show Act.put _ (some 19) _ = _
       simp only [Act.put, List.setIfInBounds_toArray, List.set_cons_zero, List.set_cons_succ, i64_w, i32_w]
       rfl
      refine oz 4 15 HT_.out (fun K hK => ?_)
      refine goes_ Tryd.func64 (by kernel_rfl) rfl #[.slice Ao40 l0.length co40, .int .u64 (IntKind.u64.wrap (a1_0))] (by rfl) rfl rfl lz ?_
      with_reducible refine (examboardref10_varint.calls k (fun k_ => some k_ = (.slice Ao40 l0.length co40 : Value).ownBlock) (.slice Ao40 l0.length co40) l0 (IntKind.u64.wrap (a1_0)) t558 w0 _ ?side1 ?side2 A6.out).mono ?_
      (case side1 => exact hz1 HB.out GE557.out)
      (case side2 => exact Kd.R_tight rfl HO0.out)
      rintro e w44 ⟨v559, rfl, ho0, hb, hkp⟩
      refine ⟨_, rfl, ?_⟩
      replace BK557 := am (blk_kept (bz BK557.out) hkp (fun hs_ => (fun e_ => (Kd.R_ne HO0.out BK557.out (by decide)) e_) hs_))
      have HO560 := am (Kd.R_mono (ok' := fun k_ => (P0_ k_ ∨ w.heap.size ≤ k_) ∧ some k_ ≠ (v562 : Value).ownBlock) ho0 (fun k_ hk_ => ⟨Or.elim hk_ (fun hs_ => (HO0.out.1 k_ (hs_).symm).1) (fun hn_ => (.inr (Nat.le_trans (by first | exact HK.out.1 | exact (show Kept w _ (fun k_ => P0_ k_) from by repeat (first | (with_reducible first | exact HK.out | apply Kept.alloc | apply Kept.drewN | apply Kept.drew | refine Kept.setCell ?_ (.inr GW557.out) _) | exact HK.out)).1) hn_))), Or.elim hk_ (fun hs_ => fun e_ => (((HO563.out).1 k_ e_.symm).2) hs_) (fun hn_ => (Kd.fresh' (Kd.R_lt (rz HO563.out)) k_ hn_))⟩))
      replace HO563 := am (Kd.R_mono (ok' := fun k_ => (P0_ k_ ∨ w.heap.size ≤ k_) ∧ some k_ ≠ (v559 : Value).ownBlock) (Kd.R_keptB (HO563.out) hkp (fun k_ hk_ hs_ => (hk_.2) hs_)) (fun k_ hk_ => ⟨hk_.1.1.1, fun e_ => Or.elim (ho0.1 k_ e_.symm) (fun hs_ => hk_.2.1 hs_) (fun hn_ => Nat.not_le.2 hk_.2.2 hn_)⟩))
      replace HK := am (Kept.then_ (S := (fun k_ => P0_ k_)) (by repeat (first | (with_reducible first | exact HK.out | apply Kept.alloc | apply Kept.drewN | apply Kept.drew | refine Kept.setCell ?_ (.inr GW557.out) _) | exact HK.out)) hkp (fun k_ hs_ => (fun e_ => (HO0.out.1 k_ e_.symm).1) hs_))
      replace HB := am (hb)
      clear HO0
      (try clear hb)
      (try clear hkp)
      (try clear ho0)
      refine hK.out _ _ ⟨(blk_cell BK557.out 0).trans rfl, (blk_cell BK557.out 1).trans rfl, (blk_cell BK557.out 2).trans rfl, (blk_cell BK557.out 3).trans rfl, (blk_cell BK557.out 4).trans rfl⟩ (fun hHeld => ?_)
      clear hK K
      refine norm_ (a' := ?_) ?_ ?_
      rotate_left
      ·
       show Act.put _ (some 15) _ = _
       simp only [Act.put, List.setIfInBounds_toArray, List.set_cons_zero, List.set_cons_succ, i64_w, i32_w]
       rfl
      exact norm_ (by simp only [putAll, Act.put, List.setIfInBounds_toArray, List.set_cons_zero, List.set_cons_succ]) (hCont (v559, v562) _ ⟨hHeld, (rz HO560.out), (rz HO563.out), (bz BK557.out), (by repeat (first | (with_reducible first | exact HK.out | apply Kept.alloc | apply Kept.drewN | apply Kept.drew | refine Kept.setCell ?_ (.inr GW557.out) _) | exact HK.out)), (hz1 HB.out GE557.out)⟩)
    rintro ⟨v559, v562⟩ w45 ⟨hS_, h0_, h1_, h2_, h3_, h4_⟩
    have n0_ : Aside0 (Kd.R (Kd.int .u8) 5 w45 w0.heap.size (fun k_ => (P0_ k_ ∨ w.heap.size ≤ k_) ∧ some k_ ≠ (v562 : Value).ownBlock) v559 t558) := ⟨h0_⟩
    have n1_ : Aside0 (Kd.R (Kd.int .u8) 5 w45 w0.heap.size (fun k_ => (P0_ k_ ∨ w.heap.size ≤ k_) ∧ some k_ ≠ (v559 : Value).ownBlock) v562 y561) := ⟨h1_⟩
    have n2_ : Aside0 (w45.heap[gb557]? = some (.cells #[.int .i64 a1_0, .int .i64 a1_1, .int .i64 a1_2, .string a1_3, .slice A1_4 l1_4.length c1_4] 43 (0, 0))) := ⟨h2_⟩
    have n3_ : Aside0 (Kept w w45 (fun k_ => P0_ k_)) := ⟨h3_⟩
    have n4_ : Aside0 (Below w0.heap.size w0 w45) := ⟨h4_⟩
    clear HO0
    clear BK557
    clear HK
    clear HB
    clear h0_ h1_ h2_ h3_ h4_
    have HO560 := n0_
    have HO563 := n1_
    have BK557 := n2_
    have HK := n3_
    have HB := n4_
    clear n0_ n1_ n2_ n3_ n4_
    have hHeld : w45.cell? ⟨gb557, 0, none⟩ = some (.int .i64 a1_0) ∧ w45.cell? ⟨gb557, 1, none⟩ = some (.int .i64 a1_1) ∧ w45.cell? ⟨gb557, 2, none⟩ = some (.int .i64 a1_2) ∧ w45.cell? ⟨gb557, 3, none⟩ = some (.string a1_3) ∧ w45.cell? ⟨gb557, 4, none⟩ = some (.slice A1_4 l1_4.length c1_4) := hS_
    obtain ⟨Ao47, co47, eo47⟩ := Kd.R_slice HO563.out
    (first | subst eo47 | (injection eo47 with f1_ f2_ f3_; have f4_ := f1_.symm; have f5_ := f3_.symm; clear f1_ f2_ f3_; subst f4_; subst f5_))
    refine norm_ (a' := ?_) ?_ ?_
    rotate_left
    ·
     simp only [putAll, Act.put, List.setIfInBounds_toArray, List.set_cons_zero, List.set_cons_succ]
     rfl
    refine oz 9 20 HT_.out (fun K hK => ?_)
    refine Kd.R_append_rows_step (Kd.int .u8) (w0 := w0) w0.heap.size (by rfl) (.tmp 15) (.tmp 19) 24 5 (.int .u8 0) 1 rfl Tryd.underlying24 info5 rfl (by decide) (by omega) v559 t558 y561 _ _ _ (fun k_ => (P0_ k_ ∨ w.heap.size ≤ k_) ∧ some k_ ≠ (.slice Ao47 y561.length co47 : Value).ownBlock) (fun _ => False) rfl rfl ?aO ?aR (fun _ _ h => h) (fun _ h => h.elim) ?aF ?aB ?aS ?aL ?_
    (case aR => exact cz (Kd.R_reads' HO563.out).2.2)
    (case aB => exact (hz1 HB.out GE557.out))
    (case aF => exact (fun k_ hk => ⟨(.inr (Nat.le_trans (by first | exact HK.out.1 | exact (show Kept w _ (fun k_ => P0_ k_) from by repeat (first | (with_reducible first | exact HK.out | apply Kept.alloc | apply Kept.drewN | apply Kept.drew | refine Kept.setCell ?_ (.inr GW557.out) _) | exact HK.out)).1) hk)), Kd.fresh' (Kd.R_lt (rz HO563.out)) k_ hk⟩))
    (case aO => exact (rz HO560.out))
    (case aS => exact (below_size (hz1 HB.out GE557.out)))
    (case aL => have := LMc7.out; omega)
    intro v565 w46 ho hb hg hat
    rw [← Ny564.out] at ho
    replace BK557 := am (blk_grown (bz BK557.out) hg (Kd.R_ne HO560.out BK557.out (by decide)))
    replace HO563 := am (Kd.R_after (ok := (fun k_ => (P0_ k_ ∨ w.heap.size ≤ k_))) (rz HO563.out) hg hat)
    replace HB := am (hb)
    replace HK := am (Kept.of_grown (S := (fun k_ => P0_ k_)) hg (by repeat (first | (with_reducible first | exact HK.out | apply Kept.alloc | apply Kept.drewN | apply Kept.drew | refine Kept.setCell ?_ (.inr GW557.out) _) | exact HK.out)) (fun k_ e_ => (HO560.out.1 k_ e_).1))
    have HO566 := am (ho)
    clear HO560
    clear ho hb hg hat
    refine hK.out _ _ ⟨(blk_cell BK557.out 0).trans rfl, (blk_cell BK557.out 1).trans rfl, (blk_cell BK557.out 2).trans rfl, (blk_cell BK557.out 3).trans rfl, (blk_cell BK557.out 4).trans rfl⟩ (fun hHeld => ?_)
    clear hK K
    refine norm_ (a' := ?_) ?_ ?_
    rotate_left
    ·
     show Act.put _ (some 20) _ = _
     simp only [Act.put, List.setIfInBounds_toArray, List.set_cons_zero, List.set_cons_succ, i64_w, i32_w]
     rfl
    refine pz 10 0 HT_.out ?_
    refine done_ (done_of HT_.out (by kernel_rfl)) ?_
    have hcz48_0 : w46.cell? ⟨gb557, 0, none⟩ = some (.int .i64 a1_0) := (blk_cell BK557.out 0).trans rfl
    have hcz48_1 : w46.cell? ⟨gb557, 1, none⟩ = some (.int .i64 a1_1) := (blk_cell BK557.out 1).trans rfl
    have hcz48_2 : w46.cell? ⟨gb557, 2, none⟩ = some (.int .i64 a1_2) := (blk_cell BK557.out 2).trans rfl
    have hcz48_3 : w46.cell? ⟨gb557, 3, none⟩ = some (.string a1_3) := (blk_cell BK557.out 3).trans rfl
    have hcz48_4 : w46.cell? ⟨gb557, 4, none⟩ = some (.slice A1_4 l1_4.length c1_4) := (blk_cell BK557.out 4).trans rfl
    have hfz48_0 := blk_frozen BK557.out 0
    have hfz48_1 := blk_frozen BK557.out 1
    have hfz48_2 := blk_frozen BK557.out 2
    have hfz48_3 := blk_frozen BK557.out 3
    have hfz48_4 := blk_frozen BK557.out 4
    try go_wp2
    replace HO563 := am (Kd.R_drew HO563.out)
    replace HO566 := am (Kd.R_drew HO566.out)
    replace BK557 := am (blk_drew BK557.out)
    replace HK := am (Kept.drew HK.out)
    replace HB := am (below_drew1 HB.out)
    obtain ⟨Ao50, co50, eo50⟩ := Kd.R_slice HO566.out
    (first | subst eo50 | (injection eo50 with f1_ f2_ f3_; have f4_ := f1_.symm; have f5_ := f3_.symm; clear f1_ f2_ f3_; subst f4_; subst f5_))
    refine start_ (n := 10) (S := fun w' => w'.cell? ⟨gb557, 0, none⟩ = some (.int .i64 a1_0) ∧ w'.cell? ⟨gb557, 1, none⟩ = some (.int .i64 a1_1) ∧ w'.cell? ⟨gb557, 2, none⟩ = some (.int .i64 a1_2) ∧ w'.cell? ⟨gb557, 3, none⟩ = some (.string a1_3) ∧ w'.cell? ⟨gb557, 4, none⟩ = some (.slice A1_4 l1_4.length c1_4)) (ds := []) #[false, false, false, false, false, false, false, false, false, false] (by kernel_rfl) rfl rfl ⟨(blk_cell BK557.out 0).trans rfl, (blk_cell BK557.out 1).trans rfl, (blk_cell BK557.out 2).trans rfl, (blk_cell BK557.out 3).trans rfl, (blk_cell BK557.out 4).trans rfl⟩ (fun hHeld => ?_); refine with_tabW examboardref10_write.tab10 examboardref10_write.bits10 (fun HT_ HW_ => ?_)
    generalize w46.drew = w49 at HO563 HO566 BK557 HK HB hHeld ⊢
    refine pz 0 44 HT_.out ?_
    refine pz 1 45 HT_.out ?_
    refine pz 6 50 HT_.out ?_
    refine take_ (i := 2) (N := some 46) (v := ?_) (a' := ?_) #[true, true, true, false, false, false, true, false, false, false] rfl rfl (take_ofW HT_.out HW_.out (by kernel_rfl)) (fun _ _ _ h => h) (Or.inl ⟨by rfl, ?_⟩) hHeld ?_ ?_
    rotate_left
    ·
     rintro w' ⟨s0, s1, s2, s3, s4⟩
     go_simp
     with_reducible rfl
    rotate_left
    ·
     simp only [Act.put, List.setIfInBounds_toArray, List.set_cons_zero, List.set_cons_succ, i64_w, i32_w]
     rfl
    refine pz 3 47 HT_.out ?_
    refine pz 4 48 HT_.out ?_
    refine take_ (i := 7) (N := some 51) (v := ?_) (a' := ?_) #[true, true, true, true, true, false, true, true, false, false] rfl rfl (take_ofW HT_.out HW_.out (by kernel_rfl)) (fun _ _ _ h => h) (Or.inl ⟨by rfl, ?_⟩) hHeld ?_ ?_
    rotate_left
    ·
     rintro w' ⟨s0, s1, s2, s3, s4⟩
     go_simp
     with_reducible rfl
    rotate_left
    ·
     simp only [Act.put, List.setIfInBounds_toArray, List.set_cons_zero, List.set_cons_succ, i64_w, i32_w]
     rfl
    refine oz 5 49 HT_.out (fun K hK => ?_)
    refine goes_ Tryd.func64 (by kernel_rfl) rfl #[.slice Ao50 y564.length co50, .int .u64 (IntKind.u64.wrap ((a1_3.size : Int)))] (by rfl) rfl rfl lz ?_
    with_reducible refine (examboardref10_varint.calls k (fun k_ => some k_ = (.slice Ao50 y564.length co50 : Value).ownBlock) (.slice Ao50 y564.length co50) y564 (IntKind.u64.wrap ((a1_3.size : Int))) t573 w0 _ ?side1 ?side2 A37.out).mono ?_
    (case side1 => exact hz1 HB.out GE557.out)
    (case side2 => exact Kd.R_tight rfl HO566.out)
    rintro e w51 ⟨v574, rfl, ho0, hb, hkp⟩
    refine ⟨_, rfl, ?_⟩
    replace BK557 := am (blk_kept (bz BK557.out) hkp (fun hs_ => (fun e_ => (Kd.R_ne HO566.out BK557.out (by decide)) e_) hs_))
    have HO575 := am (Kd.R_mono (ok' := fun k_ => (P0_ k_ ∨ w.heap.size ≤ k_) ∧ some k_ ≠ (.slice Ao47 y561.length co47 : Value).ownBlock) ho0 (fun k_ hk_ => ⟨Or.elim hk_ (fun hs_ => (HO566.out.1 k_ (hs_).symm).1) (fun hn_ => (.inr (Nat.le_trans (by first | exact HK.out.1 | exact (show Kept w _ (fun k_ => P0_ k_) from by repeat (first | (with_reducible first | exact HK.out | apply Kept.alloc | apply Kept.drewN | apply Kept.drew | refine Kept.setCell ?_ (.inr GW557.out) _) | exact HK.out)).1) hn_))), Or.elim hk_ (fun hs_ => fun e_ => (((HO563.out).1 k_ e_.symm).2) hs_) (fun hn_ => (Kd.fresh' (Kd.R_lt (rz HO563.out)) k_ hn_))⟩))
    replace HO563 := am (Kd.R_mono (ok' := fun k_ => (P0_ k_ ∨ w.heap.size ≤ k_) ∧ some k_ ≠ (v574 : Value).ownBlock) (Kd.R_keptB (HO563.out) hkp (fun k_ hk_ hs_ => (hk_.2) hs_)) (fun k_ hk_ => ⟨hk_.1.1, fun e_ => Or.elim (ho0.1 k_ e_.symm) (fun hs_ => hk_.2.1 hs_) (fun hn_ => Nat.not_le.2 hk_.2.2 hn_)⟩))
    replace HK := am (Kept.then_ (S := (fun k_ => P0_ k_)) (by repeat (first | (with_reducible first | exact HK.out | apply Kept.alloc | apply Kept.drewN | apply Kept.drew | refine Kept.setCell ?_ (.inr GW557.out) _) | exact HK.out)) hkp (fun k_ hs_ => (fun e_ => (HO566.out.1 k_ e_.symm).1) hs_))
    replace HB := am (hb)
    clear HO566
    (try clear hb)
    (try clear hkp)
    (try clear ho0)
    refine hK.out _ _ ⟨(blk_cell BK557.out 0).trans rfl, (blk_cell BK557.out 1).trans rfl, (blk_cell BK557.out 2).trans rfl, (blk_cell BK557.out 3).trans rfl, (blk_cell BK557.out 4).trans rfl⟩ (fun hHeld => ?_)
    clear hK K
    refine norm_ (a' := ?_) ?_ ?_
    rotate_left
    ·
     show Act.put _ (some 49) _ = _
     simp only [Act.put, List.setIfInBounds_toArray, List.set_cons_zero, List.set_cons_succ, i64_w, i32_w]
     rfl
    refine oz 8 52 HT_.out (fun K hK => ?_)
    refine appstr_step (w0 := w0) w0.heap.size (by rfl) (.tmp 49) _ 24 9 5 rfl Tryd.underlying24 Tryd.underlying9 info5 v574 t573 a1_3 (fun k_ => (P0_ k_ ∨ w.heap.size ≤ k_) ∧ some k_ ≠ (.slice Ao47 y561.length co47 : Value).ownBlock) rfl rfl ?aF ?aO ?aB ?aS ?aL ?_
    (case aB => exact (hz1 HB.out GE557.out))
    (case aF => exact (fun k_ hk => ⟨(.inr (Nat.le_trans (by first | exact HK.out.1 | exact (show Kept w _ (fun k_ => P0_ k_) from by repeat (first | (with_reducible first | exact HK.out | apply Kept.alloc | apply Kept.drewN | apply Kept.drew | refine Kept.setCell ?_ (.inr GW557.out) _) | exact HK.out)).1) hk)), Kd.fresh' (Kd.R_lt (rz HO563.out)) k_ hk⟩))
    (case aO => exact (rz HO575.out))
    (case aS => exact (below_size (hz1 HB.out GE557.out)))
    (case aL => have := LMc38.out; omega)
    intro v577 w52 ho hb hg hat
    rw [← Ny576.out] at ho
    replace BK557 := am (blk_grown (bz BK557.out) hg (Kd.R_ne HO575.out BK557.out (by decide)))
    replace HO563 := am (Kd.R_after (ok := (fun k_ => (P0_ k_ ∨ w.heap.size ≤ k_))) (rz HO563.out) hg hat)
    replace HB := am (hb)
    replace HK := am (Kept.of_grown (S := (fun k_ => P0_ k_)) hg (by repeat (first | (with_reducible first | exact HK.out | apply Kept.alloc | apply Kept.drewN | apply Kept.drew | refine Kept.setCell ?_ (.inr GW557.out) _) | exact HK.out)) (fun k_ e_ => (HO575.out.1 k_ e_).1))
    have HO578 := am (ho)
    clear HO575
    clear ho hb hg hat
    refine hK.out _ _ ⟨(blk_cell BK557.out 0).trans rfl, (blk_cell BK557.out 1).trans rfl, (blk_cell BK557.out 2).trans rfl, (blk_cell BK557.out 3).trans rfl, (blk_cell BK557.out 4).trans rfl⟩ (fun hHeld => ?_)
    clear hK K
    refine norm_ (a' := ?_) ?_ ?_
    rotate_left
    ·
     show Act.put _ (some 52) _ = _
     simp only [Act.put, List.setIfInBounds_toArray, List.set_cons_zero, List.set_cons_succ, i64_w, i32_w]
     rfl
    refine pz 9 4 HT_.out ?_
    refine done_ (done_of HT_.out (by kernel_rfl)) ?_
    try go_wp2
    go_ret
    exact ⟨_, ew, by (with_reducible repeat (first | apply Kd.R_alloc | apply Kd.R_drewN | apply Kd.R_drew)); exact Kd.R_mono HO578.out (fun _ hk => hk.1), hz1 HB.out GE557.out, by repeat (first | (with_reducible first | exact HK.out | apply Kept.alloc | apply Kept.drewN | apply Kept.drew | refine Kept.setCell ?_ (.inr GW557.out) _) | exact HK.out)⟩
   ·
    rw [if_neg c36] at H
    have c36b0 : (a1_1 == 2) = false := beq_eq_false_iff_ne.mpr c36
    have c36b1 : (a1_1 != 2) = true := bne_iff_ne.mpr c36
    replace H := Option.bind_eq_some_iff.mp H
    obtain ⟨t579, A530, H⟩ := H
    try dsimp only at H
    have A53 := am A530
    clear A530
    have H' := am H
    clear H
    go_enter Tryd.func50, Tryd.ntmps50
    try go_wp2_with (first | ((with_reducible refine gate_dst (N := 3) rfl ?_); refine box_event rfl (N := 3) rfl (cs := #[.int .i64 a1_0, .int .i64 a1_1, .int .i64 a1_2, .string a1_3, .slice A1_4 l1_4.length c1_4]) (t := 43) gz ?_; intro gb557 hg w54 hbox hb; replace HO0 := am (Kd.R_below (rz HO0.out) hb); have BK557 := am (hbox); have GW557 := am ((by rw [hg]; exact (by first | exact HK.out.1 | exact (show Kept w _ (fun k_ => P0_ k_) from by repeat (first | (with_reducible first | exact HK.out | apply Kept.alloc | apply Kept.drewN | apply Kept.drew) | exact HK.out)).1) : w.heap.size ≤ gb557)); replace HK := am (Kept.below (S := (fun k_ => P0_ k_)) (by repeat (first | (with_reducible first | exact HK.out | apply Kept.alloc | apply Kept.drewN | apply Kept.drew) | exact HK.out)) hb); have GE557 := am ((bs hg (hz HB.out) : w0.heap.size ≤ gb557)); replace HB := am (below_step (hz HB.out) hb); clear hb hbox hg; obtain ⟨Ao55, co55, eo55⟩ := Kd.R_slice HO0.out; subst eo55))
    replace HO0 := am (Kd.R_drew HO0.out)
    replace BK557 := am (blk_drew BK557.out)
    replace HK := am (Kept.drew HK.out)
    replace HB := am (below_drew1 HB.out)
    refine start_ (n := 11) (S := fun w' => w'.cell? ⟨gb557, 0, none⟩ = some (.int .i64 a1_0) ∧ w'.cell? ⟨gb557, 1, none⟩ = some (.int .i64 a1_1) ∧ w'.cell? ⟨gb557, 2, none⟩ = some (.int .i64 a1_2) ∧ w'.cell? ⟨gb557, 3, none⟩ = some (.string a1_3) ∧ w'.cell? ⟨gb557, 4, none⟩ = some (.slice A1_4 l1_4.length c1_4)) (ds := []) #[false, false, false, false, false, false, false, false, false, false, false] (by kernel_rfl) rfl rfl ⟨(blk_cell BK557.out 0).trans rfl, (blk_cell BK557.out 1).trans rfl, (blk_cell BK557.out 2).trans rfl, (blk_cell BK557.out 3).trans rfl, (blk_cell BK557.out 4).trans rfl⟩ (fun hHeld => ?_); refine with_tabW examboardref10_write.tab3 examboardref10_write.bits3 (fun HT_ HW_ => ?_)
    generalize w54.drew = w56 at HO0 BK557 HK HB hHeld ⊢
    refine pz 0 11 HT_.out ?_
    refine pz 1 12 HT_.out ?_
    refine pz 5 16 HT_.out ?_
    refine take_ (i := 2) (N := some 13) (v := ?_) (a' := ?_) #[true, true, true, false, false, true, false, false, false, false, false] rfl rfl (take_ofW HT_.out HW_.out (by kernel_rfl)) (fun _ _ _ h => h) (Or.inl ⟨by rfl, ?_⟩) hHeld ?_ ?_
    rotate_left
    ·
     rintro w' ⟨s0, s1, s2, s3, s4⟩
     go_simp
     with_reducible rfl
    rotate_left
    ·
     simp only [Act.put, List.setIfInBounds_toArray, List.set_cons_zero, List.set_cons_succ, i64_w, i32_w]
     rfl
    refine pz 3 14 HT_.out ?_
    refine take_ (i := 6) (N := some 17) (v := ?_) (a' := ?_) #[true, true, true, true, false, true, true, false, false, false, false] rfl rfl (take_ofW HT_.out HW_.out (by kernel_rfl)) (fun _ _ _ h => h) (Or.inl ⟨by rfl, ?_⟩) hHeld ?_ ?_
    rotate_left
    ·
     rintro w' ⟨s0, s1, s2, s3, s4⟩
     go_simp
     with_reducible rfl
    rotate_left
    ·
     simp only [Act.put, List.setIfInBounds_toArray, List.set_cons_zero, List.set_cons_succ, i64_w, i32_w]
     rfl
    refine pz 7 18 HT_.out ?_
    refine join_ (σ := Value × Value) 2 #[true, true, true, true, true, true, true, true, true, false, false] (fun s_ => [(15, s_.1), (19, s_.2)]) (fun s_ w' => (w'.cell? ⟨gb557, 0, none⟩ = some (.int .i64 a1_0) ∧ w'.cell? ⟨gb557, 1, none⟩ = some (.int .i64 a1_1) ∧ w'.cell? ⟨gb557, 2, none⟩ = some (.int .i64 a1_2) ∧ w'.cell? ⟨gb557, 3, none⟩ = some (.string a1_3) ∧ w'.cell? ⟨gb557, 4, none⟩ = some (.slice A1_4 l1_4.length c1_4)) ∧ (Kd.R (Kd.int .u8) 5 w' w0.heap.size (fun k_ => (P0_ k_ ∨ w.heap.size ≤ k_) ∧ some k_ ≠ (s_.2 : Value).ownBlock) s_.1 t558) ∧ (Kd.R (Kd.int .u8) 5 w' w0.heap.size (fun k_ => (P0_ k_ ∨ w.heap.size ≤ k_) ∧ some k_ ≠ (s_.1 : Value).ownBlock) s_.2 y561) ∧ (w'.heap[gb557]? = some (.cells #[.int .i64 a1_0, .int .i64 a1_1, .int .i64 a1_2, .string a1_3, .slice A1_4 l1_4.length c1_4] 43 (0, 0))) ∧ (Kept w w' (fun k_ => P0_ k_)) ∧ (Below w0.heap.size w0 w')) ?_ ?_
    rotate_left
    ·
     intro hCont
     refine two_ (i := 4) (j := 8) (Ni := some 15) (Nj := some 19) #[true, true, true, true, true, true, true, true, false, false, false] #[true, true, true, true, false, true, true, true, true, false, false] rfl rfl rfl rfl (two_of HT_.out (by kernel_rfl)) (by decide) (by decide) (fun K hK => ?_) (fun K hK => ?_)
     ·
      skip
      refine goes_ Tryd.func64 (by kernel_rfl) rfl #[.slice Ao55 l0.length co55, .int .u64 (IntKind.u64.wrap (a1_0))] (by rfl) rfl rfl lz ?_
      with_reducible refine (examboardref10_varint.calls k (fun k_ => some k_ = (.slice Ao55 l0.length co55 : Value).ownBlock) (.slice Ao55 l0.length co55) l0 (IntKind.u64.wrap (a1_0)) t558 w0 _ ?side1 ?side2 A6.out).mono ?_
      (case side1 => exact hz1 HB.out GE557.out)
      (case side2 => exact Kd.R_tight rfl HO0.out)
      rintro e w57 ⟨v559, rfl, ho0, hb, hkp⟩
      refine ⟨_, rfl, ?_⟩
      replace BK557 := am (blk_kept (bz BK557.out) hkp (fun hs_ => (fun e_ => (Kd.R_ne HO0.out BK557.out (by decide)) e_) hs_))
      have HO560 := am (Kd.R_mono (ok' := fun k_ => (P0_ k_ ∨ w.heap.size ≤ k_)) ho0 (fun k_ hk_ => Or.elim hk_ (fun hs_ => (HO0.out.1 k_ (hs_).symm)) (fun hn_ => (.inr (Nat.le_trans (by first | exact HK.out.1 | exact (show Kept w _ (fun k_ => P0_ k_) from by repeat (first | (with_reducible first | exact HK.out | apply Kept.alloc | apply Kept.drewN | apply Kept.drew | refine Kept.setCell ?_ (.inr GW557.out) _) | exact HK.out)).1) hn_)))))
      replace HK := am (Kept.then_ (S := (fun k_ => P0_ k_)) (by repeat (first | (with_reducible first | exact HK.out | apply Kept.alloc | apply Kept.drewN | apply Kept.drew | refine Kept.setCell ?_ (.inr GW557.out) _) | exact HK.out)) hkp (fun k_ hs_ => (fun e_ => (HO0.out.1 k_ e_.symm)) hs_))
      replace HB := am (hb)
      clear HO0
      (try clear hb)
      (try clear hkp)
      (try clear ho0)
      refine hK.out _ _ ⟨(blk_cell BK557.out 0).trans rfl, (blk_cell BK557.out 1).trans rfl, (blk_cell BK557.out 2).trans rfl, (blk_cell BK557.out 3).trans rfl, (blk_cell BK557.out 4).trans rfl⟩ (fun hHeld => ?_)
      clear hK K
      refine norm_ (a' := ?_) ?_ ?_
      rotate_left
      ·
       show Act.put _ (some 15) _ = _
       simp only [Act.put, List.setIfInBounds_toArray, List.set_cons_zero, List.set_cons_succ, i64_w, i32_w]
       rfl
      refine oz 8 19 HT_.out (fun K hK => ?_)
      refine Kd.R_lit_step (Kd.int .u8) _ 5 ?hg (N := 19) ?hd (xs := ([(a1_1) % 256] : List Int)) (inner := [.int .u8 ((a1_1) % 256)]) (ok := fun _ => True) (okp := fun _ => True) ?hr ?hp (fun _ hk => hk) trivial (Below.refl _ _) (Nat.le_refl _) (by simp) ?_; (case hd => rfl); (case hg => rfl); (case hr => exact gz); (case hp => exact (Reps.one (show Kd.M (Kd.int .u8) _ _ _ ((a1_1) % 256) [.int .u8 ((a1_1) % 256)] from rfl) (Reps.none _ _)))
      intro v562 w58 ho59 hb hg_ hnew_
      clear hg_ hnew_
      (first | rw [← Ny561.out] at ho59 | (simp only [Int.reduceToNat] at ho59; rw [← Ny561.out] at ho59))
      have HO563 := am (Kd.R_lower (Kd.R_new' (Kd.R_newM (M := fun k_ => (P0_ k_ ∨ w.heap.size ≤ k_)) ho59 (by first | exact HK.out.1 | exact (show Kept w _ (fun k_ => P0_ k_) from by repeat (first | (with_reducible first | exact HK.out | apply Kept.alloc | apply Kept.drewN | apply Kept.drew | refine Kept.setCell ?_ (.inr GW557.out) _) | exact HK.out)).1) (fun k_ h_ => .inr h_)) (Kd.R_lt (rz HO560.out))) (below_size (hz1 HB.out GE557.out)))
      replace HO560 := am (Kd.R_elder' (rz HO560.out) (Kd.R_base ho59) hb)
      replace BK557 := am (blk_below (bz BK557.out) hb)
      replace HK := am (Kept.below (S := (fun k_ => P0_ k_)) (by repeat (first | (with_reducible first | exact HK.out | apply Kept.alloc | apply Kept.drewN | apply Kept.drew | refine Kept.setCell ?_ (.inr GW557.out) _) | exact HK.out)) hb)
      replace HB := am (below_step (hz1 HB.out GE557.out) hb)
      clear hb ho59
      refine hK.out _ _ ⟨(blk_cell BK557.out 0).trans rfl, (blk_cell BK557.out 1).trans rfl, (blk_cell BK557.out 2).trans rfl, (blk_cell BK557.out 3).trans rfl, (blk_cell BK557.out 4).trans rfl⟩ (fun hHeld => ?_)
      clear hK K
      refine norm_ (a' := ?_) ?_ ?_
      rotate_left
      ·
       show Act.put _ (some 19) _ = _
       simp only [Act.put, List.setIfInBounds_toArray, List.set_cons_zero, List.set_cons_succ, i64_w, i32_w]
       rfl
      exact norm_ (by simp only [putAll, Act.put, List.setIfInBounds_toArray, List.set_cons_zero, List.set_cons_succ]) (hCont (v559, v562) _ ⟨hHeld, (rz HO560.out), (rz (Kd.R_mono HO563.out (fun _ hk => ⟨hk.1.1, hk.2⟩))), (bz BK557.out), (by repeat (first | (with_reducible first | exact HK.out | apply Kept.alloc | apply Kept.drewN | apply Kept.drew | refine Kept.setCell ?_ (.inr GW557.out) _) | exact HK.out)), (hz1 HB.out GE557.out)⟩)
     ·
      skip
      refine Kd.R_lit_step (Kd.int .u8) _ 5 ?hg (N := 19) ?hd (xs := ([(a1_1) % 256] : List Int)) (inner := [.int .u8 ((a1_1) % 256)]) (ok := fun _ => True) (okp := fun _ => True) ?hr ?hp (fun _ hk => hk) trivial (Below.refl _ _) (Nat.le_refl _) (by simp) ?_; (case hd => rfl); (case hg => rfl); (case hr => exact gz); (case hp => exact (Reps.one (show Kd.M (Kd.int .u8) _ _ _ ((a1_1) % 256) [.int .u8 ((a1_1) % 256)] from rfl) (Reps.none _ _)))
      intro v562 w57 ho58 hb hg_ hnew_
      clear hg_ hnew_
      (first | rw [← Ny561.out] at ho58 | (simp only [Int.reduceToNat] at ho58; rw [← Ny561.out] at ho58))
      have HO563 := am (Kd.R_lower (Kd.R_new' (Kd.R_newM (M := fun k_ => (P0_ k_ ∨ w.heap.size ≤ k_)) ho58 (by first | exact HK.out.1 | exact (show Kept w _ (fun k_ => P0_ k_) from by repeat (first | (with_reducible first | exact HK.out | apply Kept.alloc | apply Kept.drewN | apply Kept.drew | refine Kept.setCell ?_ (.inr GW557.out) _) | exact HK.out)).1) (fun k_ h_ => .inr h_)) (Kd.R_lt (rz HO0.out))) (below_size (hz1 HB.out GE557.out)))
      replace HO0 := am (Kd.R_elder' (rz HO0.out) (Kd.R_base ho58) hb)
      replace BK557 := am (blk_below (bz BK557.out) hb)
      replace HK := am (Kept.below (S := (fun k_ => P0_ k_)) (by repeat (first | (with_reducible first | exact HK.out | apply Kept.alloc | apply Kept.drewN | apply Kept.drew | refine Kept.setCell ?_ (.inr GW557.out) _) | exact HK.out)) hb)
      replace HB := am (below_step (hz1 HB.out GE557.out) hb)
      clear hb ho58
      refine hK.out _ _ ⟨(blk_cell BK557.out 0).trans rfl, (blk_cell BK557.out 1).trans rfl, (blk_cell BK557.out 2).trans rfl, (blk_cell BK557.out 3).trans rfl, (blk_cell BK557.out 4).trans rfl⟩ (fun hHeld => ?_)
      clear hK K
      refine norm_ (a' := ?_) ?_ ?_
      rotate_left
      ·
       show Act.put _ (some 19) _ = _
       simp only [Act.put, List.setIfInBounds_toArray, List.set_cons_zero, List.set_cons_succ, i64_w, i32_w]
       rfl
      refine oz 4 15 HT_.out (fun K hK => ?_)
      refine goes_ Tryd.func64 (by kernel_rfl) rfl #[.slice Ao55 l0.length co55, .int .u64 (IntKind.u64.wrap (a1_0))] (by rfl) rfl rfl lz ?_
      with_reducible refine (examboardref10_varint.calls k (fun k_ => some k_ = (.slice Ao55 l0.length co55 : Value).ownBlock) (.slice Ao55 l0.length co55) l0 (IntKind.u64.wrap (a1_0)) t558 w0 _ ?side1 ?side2 A6.out).mono ?_
      (case side1 => exact hz1 HB.out GE557.out)
      (case side2 => exact Kd.R_tight rfl HO0.out)
      rintro e w59 ⟨v559, rfl, ho0, hb, hkp⟩
      refine ⟨_, rfl, ?_⟩
      replace BK557 := am (blk_kept (bz BK557.out) hkp (fun hs_ => (fun e_ => (Kd.R_ne HO0.out BK557.out (by decide)) e_) hs_))
      have HO560 := am (Kd.R_mono (ok' := fun k_ => (P0_ k_ ∨ w.heap.size ≤ k_) ∧ some k_ ≠ (v562 : Value).ownBlock) ho0 (fun k_ hk_ => ⟨Or.elim hk_ (fun hs_ => (HO0.out.1 k_ (hs_).symm).1) (fun hn_ => (.inr (Nat.le_trans (by first | exact HK.out.1 | exact (show Kept w _ (fun k_ => P0_ k_) from by repeat (first | (with_reducible first | exact HK.out | apply Kept.alloc | apply Kept.drewN | apply Kept.drew | refine Kept.setCell ?_ (.inr GW557.out) _) | exact HK.out)).1) hn_))), Or.elim hk_ (fun hs_ => fun e_ => (((HO563.out).1 k_ e_.symm).2) hs_) (fun hn_ => (Kd.fresh' (Kd.R_lt (rz HO563.out)) k_ hn_))⟩))
      replace HO563 := am (Kd.R_mono (ok' := fun k_ => (P0_ k_ ∨ w.heap.size ≤ k_) ∧ some k_ ≠ (v559 : Value).ownBlock) (Kd.R_keptB (HO563.out) hkp (fun k_ hk_ hs_ => (hk_.2) hs_)) (fun k_ hk_ => ⟨hk_.1.1.1, fun e_ => Or.elim (ho0.1 k_ e_.symm) (fun hs_ => hk_.2.1 hs_) (fun hn_ => Nat.not_le.2 hk_.2.2 hn_)⟩))
      replace HK := am (Kept.then_ (S := (fun k_ => P0_ k_)) (by repeat (first | (with_reducible first | exact HK.out | apply Kept.alloc | apply Kept.drewN | apply Kept.drew | refine Kept.setCell ?_ (.inr GW557.out) _) | exact HK.out)) hkp (fun k_ hs_ => (fun e_ => (HO0.out.1 k_ e_.symm).1) hs_))
      replace HB := am (hb)
      clear HO0
      (try clear hb)
      (try clear hkp)
      (try clear ho0)
      refine hK.out _ _ ⟨(blk_cell BK557.out 0).trans rfl, (blk_cell BK557.out 1).trans rfl, (blk_cell BK557.out 2).trans rfl, (blk_cell BK557.out 3).trans rfl, (blk_cell BK557.out 4).trans rfl⟩ (fun hHeld => ?_)
      clear hK K
      refine norm_ (a' := ?_) ?_ ?_
      rotate_left
      ·
       show Act.put _ (some 15) _ = _
       simp only [Act.put, List.setIfInBounds_toArray, List.set_cons_zero, List.set_cons_succ, i64_w, i32_w]
       rfl
      exact norm_ (by simp only [putAll, Act.put, List.setIfInBounds_toArray, List.set_cons_zero, List.set_cons_succ]) (hCont (v559, v562) _ ⟨hHeld, (rz HO560.out), (rz HO563.out), (bz BK557.out), (by repeat (first | (with_reducible first | exact HK.out | apply Kept.alloc | apply Kept.drewN | apply Kept.drew | refine Kept.setCell ?_ (.inr GW557.out) _) | exact HK.out)), (hz1 HB.out GE557.out)⟩)
    rintro ⟨v559, v562⟩ w60 ⟨hS_, h0_, h1_, h2_, h3_, h4_⟩
    have n0_ : Aside0 (Kd.R (Kd.int .u8) 5 w60 w0.heap.size (fun k_ => (P0_ k_ ∨ w.heap.size ≤ k_) ∧ some k_ ≠ (v562 : Value).ownBlock) v559 t558) := ⟨h0_⟩
    have n1_ : Aside0 (Kd.R (Kd.int .u8) 5 w60 w0.heap.size (fun k_ => (P0_ k_ ∨ w.heap.size ≤ k_) ∧ some k_ ≠ (v559 : Value).ownBlock) v562 y561) := ⟨h1_⟩
    have n2_ : Aside0 (w60.heap[gb557]? = some (.cells #[.int .i64 a1_0, .int .i64 a1_1, .int .i64 a1_2, .string a1_3, .slice A1_4 l1_4.length c1_4] 43 (0, 0))) := ⟨h2_⟩
    have n3_ : Aside0 (Kept w w60 (fun k_ => P0_ k_)) := ⟨h3_⟩
    have n4_ : Aside0 (Below w0.heap.size w0 w60) := ⟨h4_⟩
    clear HO0
    clear BK557
    clear HK
    clear HB
    clear h0_ h1_ h2_ h3_ h4_
    have HO560 := n0_
    have HO563 := n1_
    have BK557 := n2_
    have HK := n3_
    have HB := n4_
    clear n0_ n1_ n2_ n3_ n4_
    have hHeld : w60.cell? ⟨gb557, 0, none⟩ = some (.int .i64 a1_0) ∧ w60.cell? ⟨gb557, 1, none⟩ = some (.int .i64 a1_1) ∧ w60.cell? ⟨gb557, 2, none⟩ = some (.int .i64 a1_2) ∧ w60.cell? ⟨gb557, 3, none⟩ = some (.string a1_3) ∧ w60.cell? ⟨gb557, 4, none⟩ = some (.slice A1_4 l1_4.length c1_4) := hS_
    obtain ⟨Ao62, co62, eo62⟩ := Kd.R_slice HO563.out
    (first | subst eo62 | (injection eo62 with f1_ f2_ f3_; have f4_ := f1_.symm; have f5_ := f3_.symm; clear f1_ f2_ f3_; subst f4_; subst f5_))
    refine norm_ (a' := ?_) ?_ ?_
    rotate_left
    ·
     simp only [putAll, Act.put, List.setIfInBounds_toArray, List.set_cons_zero, List.set_cons_succ]
     rfl
    refine oz 9 20 HT_.out (fun K hK => ?_)
    refine Kd.R_append_rows_step (Kd.int .u8) (w0 := w0) w0.heap.size (by rfl) (.tmp 15) (.tmp 19) 24 5 (.int .u8 0) 1 rfl Tryd.underlying24 info5 rfl (by decide) (by omega) v559 t558 y561 _ _ _ (fun k_ => (P0_ k_ ∨ w.heap.size ≤ k_) ∧ some k_ ≠ (.slice Ao62 y561.length co62 : Value).ownBlock) (fun _ => False) rfl rfl ?aO ?aR (fun _ _ h => h) (fun _ h => h.elim) ?aF ?aB ?aS ?aL ?_
    (case aR => exact cz (Kd.R_reads' HO563.out).2.2)
    (case aB => exact (hz1 HB.out GE557.out))
    (case aF => exact (fun k_ hk => ⟨(.inr (Nat.le_trans (by first | exact HK.out.1 | exact (show Kept w _ (fun k_ => P0_ k_) from by repeat (first | (with_reducible first | exact HK.out | apply Kept.alloc | apply Kept.drewN | apply Kept.drew | refine Kept.setCell ?_ (.inr GW557.out) _) | exact HK.out)).1) hk)), Kd.fresh' (Kd.R_lt (rz HO563.out)) k_ hk⟩))
    (case aO => exact (rz HO560.out))
    (case aS => exact (below_size (hz1 HB.out GE557.out)))
    (case aL => have := LMc7.out; omega)
    intro v565 w61 ho hb hg hat
    rw [← Ny564.out] at ho
    replace BK557 := am (blk_grown (bz BK557.out) hg (Kd.R_ne HO560.out BK557.out (by decide)))
    replace HO563 := am (Kd.R_after (ok := (fun k_ => (P0_ k_ ∨ w.heap.size ≤ k_))) (rz HO563.out) hg hat)
    replace HB := am (hb)
    replace HK := am (Kept.of_grown (S := (fun k_ => P0_ k_)) hg (by repeat (first | (with_reducible first | exact HK.out | apply Kept.alloc | apply Kept.drewN | apply Kept.drew | refine Kept.setCell ?_ (.inr GW557.out) _) | exact HK.out)) (fun k_ e_ => (HO560.out.1 k_ e_).1))
    have HO566 := am (ho)
    clear HO560
    clear ho hb hg hat
    refine hK.out _ _ ⟨(blk_cell BK557.out 0).trans rfl, (blk_cell BK557.out 1).trans rfl, (blk_cell BK557.out 2).trans rfl, (blk_cell BK557.out 3).trans rfl, (blk_cell BK557.out 4).trans rfl⟩ (fun hHeld => ?_)
    clear hK K
    refine norm_ (a' := ?_) ?_ ?_
    rotate_left
    ·
     show Act.put _ (some 20) _ = _
     simp only [Act.put, List.setIfInBounds_toArray, List.set_cons_zero, List.set_cons_succ, i64_w, i32_w]
     rfl
    refine pz 10 0 HT_.out ?_
    refine done_ (done_of HT_.out (by kernel_rfl)) ?_
    have hcz63_0 : w61.cell? ⟨gb557, 0, none⟩ = some (.int .i64 a1_0) := (blk_cell BK557.out 0).trans rfl
    have hcz63_1 : w61.cell? ⟨gb557, 1, none⟩ = some (.int .i64 a1_1) := (blk_cell BK557.out 1).trans rfl
    have hcz63_2 : w61.cell? ⟨gb557, 2, none⟩ = some (.int .i64 a1_2) := (blk_cell BK557.out 2).trans rfl
    have hcz63_3 : w61.cell? ⟨gb557, 3, none⟩ = some (.string a1_3) := (blk_cell BK557.out 3).trans rfl
    have hcz63_4 : w61.cell? ⟨gb557, 4, none⟩ = some (.slice A1_4 l1_4.length c1_4) := (blk_cell BK557.out 4).trans rfl
    have hfz63_0 := blk_frozen BK557.out 0
    have hfz63_1 := blk_frozen BK557.out 1
    have hfz63_2 := blk_frozen BK557.out 2
    have hfz63_3 := blk_frozen BK557.out 3
    have hfz63_4 := blk_frozen BK557.out 4
    obtain ⟨Ao64, co64, eo64⟩ := Kd.R_slice HO566.out
    subst eo64
    try go_wp2_with (first | ((with_reducible refine gate_callee (f := 64) rfl ?_); refine goesL_ (some 58) rfl rfl Tryd.func64 (by kernel_rfl) rfl #[.slice Ao64 y564.length co64, .int .u64 (IntKind.u64.wrap ((l1_4.length : Int)))] rfl lz ?_; (with_reducible refine (examboardref10_varint.calls k (fun k_ => some k_ = (.slice Ao64 y564.length co64 : Value).ownBlock) (.slice Ao64 y564.length co64) y564 (IntKind.u64.wrap ((l1_4.length : Int))) t579 w0 _ ?side1 ?side2 A53.out).mono ?_); (case side1 => exact hz1 HB.out GE557.out); (case side2 => exact Kd.R_tight rfl HO566.out); rintro e w65 ⟨v580, rfl, ho0, hb, hkp⟩; refine ⟨_, rfl, ?_⟩; replace BK557 := am (blk_kept (bz BK557.out) hkp (fun hs_ => (fun e_ => (Kd.R_ne HO566.out BK557.out (by decide)) e_) hs_)); have HO581 := am (Kd.R_mono (ok' := fun k_ => (P0_ k_ ∨ w.heap.size ≤ k_) ∧ some k_ ≠ (.slice Ao62 y561.length co62 : Value).ownBlock) ho0 (fun k_ hk_ => ⟨Or.elim hk_ (fun hs_ => (HO566.out.1 k_ (hs_).symm).1) (fun hn_ => (.inr (Nat.le_trans (by first | exact HK.out.1 | exact (show Kept w _ (fun k_ => P0_ k_) from by repeat (first | (with_reducible first | exact HK.out | apply Kept.alloc | apply Kept.drewN | apply Kept.drew | refine Kept.setCell ?_ (.inr GW557.out) _) | exact HK.out)).1) hn_))), Or.elim hk_ (fun hs_ => fun e_ => (((HO563.out).1 k_ e_.symm).2) hs_) (fun hn_ => (Kd.fresh' (Kd.R_lt (rz HO563.out)) k_ hn_))⟩)); replace HO563 := am (Kd.R_mono (ok' := fun k_ => (P0_ k_ ∨ w.heap.size ≤ k_) ∧ some k_ ≠ (v580 : Value).ownBlock) (Kd.R_keptB (HO563.out) hkp (fun k_ hk_ hs_ => (hk_.2) hs_)) (fun k_ hk_ => ⟨hk_.1.1, fun e_ => Or.elim (ho0.1 k_ e_.symm) (fun hs_ => hk_.2.1 hs_) (fun hn_ => Nat.not_le.2 hk_.2.2 hn_)⟩)); replace HK := am (Kept.then_ (S := (fun k_ => P0_ k_)) (by repeat (first | (with_reducible first | exact HK.out | apply Kept.alloc | apply Kept.drewN | apply Kept.drew | refine Kept.setCell ?_ (.inr GW557.out) _) | exact HK.out)) hkp (fun k_ hs_ => (fun e_ => (HO566.out.1 k_ e_.symm).1) hs_)); replace HB := am (hb); clear HO566; (try clear hb); (try clear hkp); (try clear ho0)))
    go_loopg [0, 6] k (fun kq v0 v6 w' => ∃ (x0_1 : List Int) (x6_1 : Int), v6 = .int .i64 x6_1 ∧ Aside0 (examboardref10_write.l0 kq x0_1 x6_1 a1_0 a1_1 a1_2 a1_3 l1_4 = some r) ∧ Aside0 (kq ≤ k) ∧ Aside0 (Kd.R (Kd.int .u8) 5 w' w0.heap.size (fun k_ => (P0_ k_ ∨ w.heap.size ≤ k_)) v0 x0_1) ∧ Aside0 (w'.heap[gb557]? = some (.cells #[.int .i64 a1_0, .int .i64 a1_1, .int .i64 a1_2, .string a1_3, (.slice A1_4 l1_4.length c1_4)] 43 (0, 0))) ∧ Aside0 (Kept w w' (fun k_ => P0_ k_)) ∧ Aside0 (Below w0.heap.size w0 w'))
    case atStart => exact ⟨(t579), (0), rfz, H', ⟨Nat.le_refl _⟩, ⟨by (with_reducible repeat (first | apply Kd.R_alloc | apply Kd.R_drewN | apply Kd.R_drew)); exact Kd.R_mono HO581.out (fun _ hk => hk.1)⟩, ⟨by (with_reducible repeat (first | refine blk_drewN ?_ _ | refine blk_drew ?_ | refine blk_alloc ?_ _)); exact BK557.out⟩, ⟨by repeat (first | (with_reducible first | exact HK.out | apply Kept.alloc | apply Kept.drewN | apply Kept.drew | refine Kept.setCell ?_ (.inr GW557.out) _) | exact HK.out)⟩, ⟨hz1 HB.out GE557.out⟩⟩
    case round =>
     clear H'
     obtain ⟨x0_1, x6_1, rfl, HA, HK1, HO_0, BK557, HK, HB⟩ := hrel
     cases gk with
     | zero => exact absurd HA.out (by simp [examboardref10_write.l0])
     | succ k1 =>
      have H := HA.out
      clear HA
      simp only [examboardref10_write.l0] at H
      by_cases c66 : x6_1 < (l1_4.length : Int)
      ·
       rw [if_pos c66] at H
       have c66b0 : decide (x6_1 < (l1_4.length : Int)) = true := decide_eq_true c66
       clear c66
       replace H := it_ H
       obtain ⟨c67, H⟩ := H
       have c67b0 : decide (0 ≤ x6_1) = true := decide_eq_true c67
       clear c67
       replace H := Option.bind_eq_some_iff.mp H
       obtain ⟨t583, A680, H⟩ := H
       try dsimp only at H
       have A68 := am A680
       clear A680
       have H' := am H
       clear H
       have hcz69_0 : wr.cell? ⟨gb557, 0, none⟩ = some (.int .i64 a1_0) := (blk_cell BK557.out 0).trans rfl
       have hcz69_1 : wr.cell? ⟨gb557, 1, none⟩ = some (.int .i64 a1_1) := (blk_cell BK557.out 1).trans rfl
       have hcz69_2 : wr.cell? ⟨gb557, 2, none⟩ = some (.int .i64 a1_2) := (blk_cell BK557.out 2).trans rfl
       have hcz69_3 : wr.cell? ⟨gb557, 3, none⟩ = some (.string a1_3) := (blk_cell BK557.out 3).trans rfl
       have hcz69_4 : wr.cell? ⟨gb557, 4, none⟩ = some (.slice A1_4 l1_4.length c1_4) := (blk_cell BK557.out 4).trans rfl
       have hfz69_0 := blk_frozen BK557.out 0
       have hfz69_1 := blk_frozen BK557.out 1
       have hfz69_2 := blk_frozen BK557.out 2
       have hfz69_3 := blk_frozen BK557.out 3
       have hfz69_4 := blk_frozen BK557.out 4
       have p582 : 0 ≤ (x6_1 : Int) := of_decide_eq_true az
       have q582 : x6_1 < (l1_4.length : Int) := of_decide_eq_true az
       obtain ⟨ad582, A582_4, c582_4, e582, hx582_0, hx582_1, hx582_2, hx582_3, hx582_4, hl582_4, hi582_4⟩ := at_T43 HR1_4.out x6_1 p582 q582
       cases e582
       replace hx582_0 := pw_cell_below HB.out hx582_0
       replace hx582_1 := pw_cell_below HB.out hx582_1
       replace hx582_2 := pw_cell_below HB.out hx582_2
       replace hx582_3 := pw_cell_below HB.out hx582_3
       replace hx582_4 := pw_cell_below HB.out hx582_4
       have HR582_4 := am hi582_4
       have HC582_4 := am hl582_4
       clear hi582_4 hl582_4
       replace p582 := eq_true p582
       replace q582 := eq_true q582
       obtain ⟨Ao70, co70, eo70⟩ := Kd.R_slice HO_0.out
       subst eo70
       go_wp2_with (first | ((with_reducible refine gate_callee (f := 50) rfl ?_); refine goesL_ (some 72) rfl rfl Tryd.func50 (by kernel_rfl) rfl #[.slice Ao70 x0_1.length co70, .agg #[.int .i64 ((rd_T43 l1_4 x6_1).f0), .int .i64 ((rd_T43 l1_4 x6_1).f1), .int .i64 ((rd_T43 l1_4 x6_1).f2), .string ((rd_T43 l1_4 x6_1).f3), .slice A582_4 ((rd_T43 l1_4 x6_1).f4).length c582_4]] rfl lz ?_; (with_reducible refine (ih k1 (by have := HK1.out; omega) (fun k_ => some k_ = (.slice Ao70 x0_1.length co70 : Value).ownBlock) (.slice Ao70 x0_1.length co70) x0_1 ((rd_T43 l1_4 x6_1).f0) ((rd_T43 l1_4 x6_1).f1) ((rd_T43 l1_4 x6_1).f2) ((rd_T43 l1_4 x6_1).f3) _ _ ((rd_T43 l1_4 x6_1).f4) t583 w0 _ ?side1 ?side2 ?side3 ?side4 A68.out).mono ?_); (case side1 => exact hz1 HB.out GE557.out); (case side2 => exact Kd.R_tight rfl HO_0.out); (case side3 => exact HR582_4.out); (case side4 => exact HC582_4.out); rintro e w71 ⟨v584, rfl, ho0, hb, hkp⟩; refine ⟨_, rfl, ?_⟩; replace BK557 := am (blk_kept (bz BK557.out) hkp (fun hs_ => (fun e_ => (Kd.R_ne HO_0.out BK557.out (by decide)) e_) hs_)); have HO585 := am (Kd.R_mono (ok' := fun k_ => (P0_ k_ ∨ w.heap.size ≤ k_)) ho0 (fun k_ hk_ => Or.elim hk_ (fun hs_ => (HO_0.out.1 k_ (hs_).symm)) (fun hn_ => (.inr (Nat.le_trans (by first | exact HK.out.1 | exact (show Kept w _ (fun k_ => P0_ k_) from by repeat (first | (with_reducible first | exact HK.out | apply Kept.alloc | apply Kept.drewN | apply Kept.drew | refine Kept.setCell ?_ (.inr GW557.out) _) | exact HK.out)).1) hn_))))); replace HK := am (Kept.then_ (S := (fun k_ => P0_ k_)) (by repeat (first | (with_reducible first | exact HK.out | apply Kept.alloc | apply Kept.drewN | apply Kept.drew | refine Kept.setCell ?_ (.inr GW557.out) _) | exact HK.out)) hkp (fun k_ hs_ => (fun e_ => (HO_0.out.1 k_ e_.symm)) hs_)); replace HB := am (hb); clear HO_0; (try clear hb); (try clear hkp); (try clear ho0)))
       go_roundg k1
       case measure => have := HK1.out; omega
       case rel => exact ⟨(t583), (wrap64 (x6_1 + 1)), rfz, H', ⟨by have := HK1.out; omega⟩, ⟨rz HO585.out⟩, ⟨by (with_reducible repeat (first | refine blk_drewN ?_ _ | refine blk_drew ?_ | refine blk_alloc ?_ _)); exact BK557.out⟩, ⟨by repeat (first | (with_reducible first | exact HK.out | apply Kept.alloc | apply Kept.drewN | apply Kept.drew | refine Kept.setCell ?_ (.inr GW557.out) _) | exact HK.out)⟩, ⟨hz1 HB.out GE557.out⟩⟩
      ·
       rw [if_neg c66] at H
       have c66b0 : decide (x6_1 < (l1_4.length : Int)) = false := decide_eq_false c66
       clear c66
       obtain rfl := Option.some.inj H
       have hcz72_0 : wr.cell? ⟨gb557, 0, none⟩ = some (.int .i64 a1_0) := (blk_cell BK557.out 0).trans rfl
       have hcz72_1 : wr.cell? ⟨gb557, 1, none⟩ = some (.int .i64 a1_1) := (blk_cell BK557.out 1).trans rfl
       have hcz72_2 : wr.cell? ⟨gb557, 2, none⟩ = some (.int .i64 a1_2) := (blk_cell BK557.out 2).trans rfl
       have hcz72_3 : wr.cell? ⟨gb557, 3, none⟩ = some (.string a1_3) := (blk_cell BK557.out 3).trans rfl
       have hcz72_4 : wr.cell? ⟨gb557, 4, none⟩ = some (.slice A1_4 l1_4.length c1_4) := (blk_cell BK557.out 4).trans rfl
       have hfz72_0 := blk_frozen BK557.out 0
       have hfz72_1 := blk_frozen BK557.out 1
       have hfz72_2 := blk_frozen BK557.out 2
       have hfz72_3 := blk_frozen BK557.out 3
       have hfz72_4 := blk_frozen BK557.out 4
       go_wp2
       go_ret
       exact ⟨_, ew, rz HO_0.out, hz1 HB.out GE557.out, by repeat (first | (with_reducible first | exact HK.out | apply Kept.alloc | apply Kept.drewN | apply Kept.drew | refine Kept.setCell ?_ (.inr GW557.out) _) | exact HK.out)⟩

end Go.Proofs.YteeggfnailpcpaaDoor.Q
