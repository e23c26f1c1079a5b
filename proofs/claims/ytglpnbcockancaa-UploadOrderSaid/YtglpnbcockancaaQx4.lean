/- Made by wip/myprint.py of this session (it drives the kit's printer): what the calls of the Go functions come to, as plain Lean functions, and the row of a law over them; without conditions. -/
import Derived.Test.YtglpnbcockancaaQx0
import Derived.Test.YtglpnbcockancaaQx1
import Derived.Test.YtglpnbcockancaaQx2
import Derived.Test.YtglpnbcockancaaQx3
namespace Go.Proofs.Ytglpnbcockancaa.Q
open Go.RowKit Go.Proofs.YtglpnbcockancaaW.PrintWords Go.Proofs.YtglpnbcockancaaW.PrintLast Go.Proofs.YtglpnbcockancaaW.PrintMore
attribute [local go_sem] max2_int min2_int max_two min_two max_three min_three max_four min_four   -- for this text's walks alone
set_option linter.unusedVariables false
set_option linter.unusedSimpArgs false

/-! ### upload_copied: function 42 -/
def upload_copied.f (a0_0 : Int) (a0_1 : Int) (l0_2 : List Int) (a0_3 : Int) : Option (Int × Int × List Int × Int) := (bytes_Clone.f l0_2).bind fun t221 => (some (a0_0, a0_1, t221, a0_3))
def upload_copied.T1 : Bool × List (List Nat × List Nat) := (true, [([], []), ([0], [0]), ([], []), ([2], [2]), ([], []), ([4], [4]), ([5], [5]), ([], []), ([7], [7]), ([1, 3, 6, 8], [1, 3, 6, 8]), ([9, 6, 0, 1, 2, 3, 4, 5, 6, 7, 8, 9], [9])])
def upload_copied.B1 : List Nat := [0, 1, 0, 4, 0, 16, 48, 0, 128, 511, 1023]
theorem upload_copied.tab1 : rtab .any (opsOf Try.f42 1) = upload_copied.T1 := by kernel_rfl
theorem upload_copied.bits1 : waitsOk upload_copied.T1.2 upload_copied.B1 = true := by kernel_rfl
set_option maxHeartbeats 8000000 in
set_option maxRecDepth 100000 in
theorem upload_copied.calls (a0_0 : Int) (a0_1 : Int) (A0_2 : Option Addr) (c0_2 : Nat) (l0_2 : List Int) (a0_3 : Int) (r1 : Int) (r2 : Int) (r3 : List Int) (r4 : Int) (w : World) (hr0_2 : Kd.C (Kd.int .u8) w A0_2 l0_2.length l0_2) (hc0_2 : l0_2.length ≤ c0_2) (h : upload_copied.f a0_0 a0_1 l0_2 a0_3 = some (r1, r2, r3, r4)) :
  Calls Try.prog 42 #[.agg #[.int .i64 a0_0, .int .i64 a0_1, .slice A0_2 l0_2.length c0_2, .int .u64 a0_3]] w fun e w' => ∃ v2_ : Value, e = .returned (.agg #[.int .i64 r1, .int .i64 r2, v2_, .int .u64 r4]) ∧ Kd.R (Kd.int .u8) 5 w' w.heap.size (fun _ => True) v2_ r3 ∧ Below w.heap.size w w' := by
 have hu25 := Try.underlying25
 have HR0_2 := am hr0_2
 have HC0_2 := am hc0_2
 clear hr0_2 hc0_2
 have HB := am (Below.refl w.heap.size w)
 have H : ((bytes_Clone.f l0_2).bind fun t221 => (some (a0_0, a0_1, t221, a0_3))) = some (r1, r2, r3, r4) := h
 clear h
 replace H := Option.bind_eq_some_iff.mp H
 obtain ⟨t221, A20, H⟩ := H
 replace H : (some (a0_0, a0_1, t221, a0_3)) = some (r1, r2, r3, r4) := H
 have A2 := am A20
 clear A20
 simp only [Option.some.injEq, Prod.mk.injEq] at H
 obtain ⟨rfl, rfl, rfl, rfl⟩ := H
 go_enter Try.func42, Try.ntmps42
 try go_wp2_with (first | ((with_reducible refine gate_dst (N := 1) rfl ?_); refine box_event ?hg (N := 1) ?hd (cs := #[.int .i64 a0_0, .int .i64 a0_1, .slice A0_2 l0_2.length c0_2, .int .u64 a0_3]) (t := 25) ?hr ?_; (case hd => rfl); (case hg => rfl); (case hr => exact gz); intro gb219 hg w3 hbox hb; have BK219 := am (hbox); have GW219 := am ((bs hg (hz HB.out) : w.heap.size ≤ gb219)); have GE219 := am ((bs hg (hz HB.out) : w.heap.size ≤ gb219)); replace HB := am (below_step (hz HB.out) hb); clear hb hbox hg) | ((with_reducible refine gate_dst (N := 2) rfl ?_); refine box_event ?hg (N := 2) ?hd (cs := #[.int .i64 0, .int .i64 0, .slice none 0 0, .int .u64 0]) (t := 25) ?hr ?_; (case hd => rfl); (case hg => rfl); (case hr => exact gz); intro gb220 hg w4 hbox hb; have BK220 := am (hbox); have GW220 := am ((bs hg (hz1 HB.out GE219.out) : w.heap.size ≤ gb220)); have GE220 := am ((bs hg (hz1 HB.out GE219.out) : w.heap.size ≤ gb220)); replace HB := am (below_step (hz1 HB.out GE219.out) hb); have NB219_220 := am ((nl hg (bz BK219.out) : gb219 ≠ gb220)); have NB220_219 := am ((ng hg (bz BK219.out) : gb220 ≠ gb219)); replace BK219 := am (blk_below (bz BK219.out) hb); clear hb hbox hg))
 replace BK219 := am (blk_drew BK219.out)
 replace BK220 := am (blk_drew BK220.out)
 replace HB := am (below_drew1 HB.out)
 refine start_ (n := 11) (S := fun w' => w'.cell? ⟨gb219, 0, none⟩ = some (.int .i64 a0_0) ∧ w'.cell? ⟨gb219, 1, none⟩ = some (.int .i64 a0_1) ∧ w'.cell? ⟨gb219, 2, none⟩ = some (.slice A0_2 l0_2.length c0_2) ∧ w'.cell? ⟨gb219, 3, none⟩ = some (.int .u64 a0_3)) (ds := []) #[false, false, false, false, false, false, false, false, false, false, false] (by kernel_rfl) rfl rfl ⟨(blk_cell BK219.out 0).trans rfl, (blk_cell BK219.out 1).trans rfl, (blk_cell BK219.out 2).trans rfl, (blk_cell BK219.out 3).trans rfl⟩ (fun hHeld => ?_); refine with_tabW upload_copied.tab1 upload_copied.bits1 (fun HT_ HW_ => ?_)
 generalize w4.drew = w5 at BK219 BK220 HB hHeld ⊢
 refine pz 0 3 HT_.out ?_
 refine pz 2 5 HT_.out ?_
 refine pz 4 7 HT_.out ?_
 refine pz 7 10 HT_.out ?_
 refine tz4 1 4 HT_.out HW_.out hHeld ?_
 refine tz4 3 6 HT_.out HW_.out hHeld ?_
 refine tz4 5 8 HT_.out HW_.out hHeld ?_
 refine tz4 8 11 HT_.out HW_.out hHeld ?_
 refine oz 6 9 HT_.out (fun K hK => ?_)
 refine goes_ Try.func26 (by kernel_rfl) rfl #[.slice A0_2 l0_2.length c0_2] (by rfl) rfl rfl lz ?_
 with_reducible refine (bytes_Clone.calls _ _ l0_2 t221 _ ?side1 ?side2 A2.out).mono ?_
 (case side1 => exact cz (Kd.C_below HR0_2.out HB.out))
 (case side2 => exact HC0_2.out)
 rintro e w6 ⟨v222, rfl, ho0, hb⟩
 refine ⟨_, rfl, ?_⟩
 have HO223 := am (Kd.R_lower ho0 (below_size (hz2 HB.out GE219.out GE220.out)))
 replace BK219 := am (blk_below (bz BK219.out) hb)
 replace BK220 := am (blk_below (bz BK220.out) hb)
 replace HB := am (below_step (hz2 HB.out GE219.out GE220.out) hb)
 (try clear hb)
 (try clear hb2)
 (try clear hk)
 (try clear hi)
 (try clear ho0)
 obtain ⟨Ao7, co7, eo7⟩ := Kd.R_slice HO223.out
 (first | subst eo7 | (injection eo7 with f1_ f2_ f3_; have f4_ := f1_.symm; have f5_ := f3_.symm; clear f1_ f2_ f3_; subst f4_; subst f5_))
 refine hK.out _ _ ⟨(blk_cell BK219.out 0).trans rfl, (blk_cell BK219.out 1).trans rfl, (blk_cell BK219.out 2).trans rfl, (blk_cell BK219.out 3).trans rfl⟩ (fun hHeld => ?_)
 clear hK K
 refine norm_ (a' := ?_) ?_ ?_
 rotate_left
 ·
  show Act.put _ (some 9) _ = _
  simp only [Act.put, List.setIfInBounds_toArray, List.set_cons_zero, List.set_cons_succ, i64_w, i32_w]
  rfl
 refine pz 9 12 HT_.out ?_
 refine one_ (i := 10) (N := none) #[true, true, true, true, true, true, true, true, true, true, true] rfl rfl (one_of HT_.out (by kernel_rfl)) (by decide) (fun K hK => ?_)
 have hs8 : w6.cell? ⟨gb220, 0, none⟩ = some (.int .i64 0) := (blk_cell BK220.out 0).trans rfl
 have hfs8 := blk_frozen BK220.out 0
 have hns8_0 := NB219_220.out
 have hms8_0 := NB220_219.out
 have hs9 : w6.cell? ⟨gb220, 1, none⟩ = some (.int .i64 0) := (blk_cell BK220.out 1).trans rfl
 have hfs9 := blk_frozen BK220.out 1
 have hns9_0 := NB219_220.out
 have hms9_0 := NB220_219.out
 have hs10 : w6.cell? ⟨gb220, 2, none⟩ = some (.slice none 0 0) := (blk_cell BK220.out 2).trans rfl
 have hfs10 := blk_frozen BK220.out 2
 have hns10_0 := NB219_220.out
 have hms10_0 := NB220_219.out
 have hs11 : w6.cell? ⟨gb220, 3, none⟩ = some (.int .u64 0) := (blk_cell BK220.out 3).trans rfl
 have hfs11 := blk_frozen BK220.out 3
 have hns11_0 := NB219_220.out
 have hms11_0 := NB220_219.out
 refine skip_ (w1 := ?_) (by rfl) rfl ?_ ?_
 rotate_left
 ·
  go_simp
  rfl
 refine hK.out _ _ ⟨((cell_far (p := ⟨gb220, _, none⟩) NB219_220.out _).trans (((cell_far (p := ⟨gb220, _, none⟩) NB219_220.out _).trans (((cell_far (p := ⟨gb220, _, none⟩) NB219_220.out _).trans (((cell_far (p := ⟨gb220, _, none⟩) NB219_220.out _).trans (hHeld.1)))))))), ((cell_far (p := ⟨gb220, _, none⟩) NB219_220.out _).trans (((cell_far (p := ⟨gb220, _, none⟩) NB219_220.out _).trans (((cell_far (p := ⟨gb220, _, none⟩) NB219_220.out _).trans (((cell_far (p := ⟨gb220, _, none⟩) NB219_220.out _).trans (hHeld.2.1)))))))), ((cell_far (p := ⟨gb220, _, none⟩) NB219_220.out _).trans (((cell_far (p := ⟨gb220, _, none⟩) NB219_220.out _).trans (((cell_far (p := ⟨gb220, _, none⟩) NB219_220.out _).trans (((cell_far (p := ⟨gb220, _, none⟩) NB219_220.out _).trans (hHeld.2.2.1)))))))), ((cell_far (p := ⟨gb220, _, none⟩) NB219_220.out _).trans (((cell_far (p := ⟨gb220, _, none⟩) NB219_220.out _).trans (((cell_far (p := ⟨gb220, _, none⟩) NB219_220.out _).trans (((cell_far (p := ⟨gb220, _, none⟩) NB219_220.out _).trans (hHeld.2.2.2))))))))⟩ (fun hHeld => ?_)
 clear hK K
 refine done_ (done_of HT_.out (by kernel_rfl)) ?_
 try go_wp2
 refine bodyPost_ret (results_cell_row rfl _ _ gb220 25 #[.int .i64 a0_0, .int .i64 a0_1, .slice Ao7 t221.length co7, .int .u64 a0_3] (0, 0) _ rfl (by (with_reducible repeat (first | refine blk_drewN ?_ _ | refine blk_drew ?_ | refine blk_alloc ?_ _)); refine blk_put (cs := #[.int .i64 a0_0, .int .i64 a0_1, .slice Ao7 t221.length co7, .int .u64 0]) ?_ 3 _ rfl; (with_reducible repeat (first | refine blk_drewN ?_ _ | refine blk_drew ?_ | refine blk_alloc ?_ _)); refine blk_put (cs := #[.int .i64 a0_0, .int .i64 a0_1, .slice none 0 0, .int .u64 0]) ?_ 2 _ rfl; (with_reducible repeat (first | refine blk_drewN ?_ _ | refine blk_drew ?_ | refine blk_alloc ?_ _)); refine blk_put (cs := #[.int .i64 a0_0, .int .i64 0, .slice none 0 0, .int .u64 0]) ?_ 1 _ rfl; (with_reducible repeat (first | refine blk_drewN ?_ _ | refine blk_drew ?_ | refine blk_alloc ?_ _)); refine blk_put (cs := #[.int .i64 0, .int .i64 0, .slice none 0 0, .int .u64 0]) ?_ 0 _ rfl; (with_reducible repeat (first | refine blk_drewN ?_ _ | refine blk_drew ?_ | refine blk_alloc ?_ _)); exact BK220.out) Try.underlying25 rfl (by kernel_rfl)) rfl ?_
 exact ⟨_, by first | rfl | (simp [errW_none, errW_some] <;> rfl) | (simp [*, errW_none, errW_some] <;> rfl), by (with_reducible repeat (first | apply Kd.R_alloc | apply Kd.R_drewN | apply Kd.R_drew)); exact Kd.R_mono (rfg4 HO223.out BK220.out) (fun _ hk => trivial), hz2 HB.out GE219.out GE220.out⟩

/-! ### upload_extended: function 43 -/
def upload_extended.f (l0 : List Int) (a1_0 : Int) (a1_1 : Int) (l1_2 : List Int) (a1_3 : Int) : Option (List Int) := if 0 ≤ (mn (wrap64 ((l0.length : Int) - a1_1)) (l1_2.length : Int)) then (if (mn (wrap64 ((l0.length : Int) - a1_1)) (l1_2.length : Int)) ≤ (l1_2.length : Int) then ((some (l1_2.drop ((mn (wrap64 ((l0.length : Int) - a1_1)) (l1_2.length : Int)) : Int).toNat : List Int)).bind fun y225 => (if l0.length + y225.length < 140737488355328 then (some (l0 ++ y225)) else (none))) else (none)) else (none)
set_option maxHeartbeats 8000000 in
set_option maxRecDepth 100000 in
theorem upload_extended.calls (P0_ : Nat → Prop) (u9000_ : Value) (l0 : List Int) (a1_0 : Int) (a1_1 : Int) (A1_2 : Option Addr) (c1_2 : Nat) (l1_2 : List Int) (a1_3 : Int) (r : List Int) (w0 w : World) (hB : Below w0.heap.size w0 w) (ho0 : Kd.R (Kd.int .u8) 5 w w0.heap.size P0_ u9000_ l0) (hr1_2 : ∀ W_, Kept w W_ (fun k_ => P0_ k_) → Kd.C (Kd.int .u8) W_ A1_2 l1_2.length l1_2) (hc1_2 : l1_2.length ≤ c1_2) (h : upload_extended.f l0 a1_0 a1_1 l1_2 a1_3 = some r) :
  Calls Try.prog 43 #[u9000_, .agg #[.int .i64 a1_0, .int .i64 a1_1, .slice A1_2 l1_2.length c1_2, .int .u64 a1_3]] w fun e w' => ∃ v0_ : Value, e = .returned (v0_) ∧ Kd.R (Kd.int .u8) 5 w' w0.heap.size (fun k_ => (P0_ k_ ∨ w.heap.size ≤ k_)) v0_ r ∧ Below w0.heap.size w0 w' ∧ Kept w w' (fun k_ => P0_ k_) := by
 have hu25 := Try.underlying25
 have HO0 := am (show Kd.R (Kd.int .u8) 5 w w0.heap.size (fun k_ => (P0_ k_ ∨ w.heap.size ≤ k_)) u9000_ l0 from Kd.R_mono ho0 (fun k_ hk => (.inl hk)))
 have HR1_2 := am hr1_2
 have HC1_2 := am hc1_2
 clear hr1_2 hc1_2
 have HK := am (Kept.refl w (fun k_ => P0_ k_))
 have HW0 := am hB.size
 have HB := am hB
 clear hB
 have H : (if 0 ≤ (mn (wrap64 ((l0.length : Int) - a1_1)) (l1_2.length : Int)) then (if (mn (wrap64 ((l0.length : Int) - a1_1)) (l1_2.length : Int)) ≤ (l1_2.length : Int) then ((some (l1_2.drop ((mn (wrap64 ((l0.length : Int) - a1_1)) (l1_2.length : Int)) : Int).toNat : List Int)).bind fun y225 => (if l0.length + y225.length < 140737488355328 then (some (l0 ++ y225)) else (none))) else (none)) else (none)) = some r := h
 clear h
 obtain ⟨ji3, hji3⟩ : ∃ j_ : Int, (mn (wrap64 ((l0.length : Int) - a1_1)) (l1_2.length : Int)) = j_ := ⟨_, rfl⟩
 replace H : (if 0 ≤ (ji3) then (if (ji3) ≤ (l1_2.length : Int) then ((some (l1_2.drop ((ji3) : Int).toNat : List Int)).bind fun y225 => (if l0.length + y225.length < 140737488355328 then (some (l0 ++ y225)) else (none))) else (none)) else (none)) = some r := by first | (rw [hji3] at H; exact H) | (simp only [hji3] at H ⊢; exact H)
 have hji3_ : (if (l1_2.length : Int) < (wrap64 ((l0.length : Int) - a1_1)) then (l1_2.length : Int) else (wrap64 ((l0.length : Int) - a1_1))) = ji3 := hji3
 replace H := it_ H
 obtain ⟨c4, H⟩ := H
 have c4b0 := eq_true c4
 have c4b1 : decide (0 ≤ (ji3)) = true := decide_eq_true c4
 clear c4
 replace H := it_ H
 obtain ⟨c5, H⟩ := H
 have c5b0 := eq_true c5
 have c5b1 : decide ((ji3) ≤ (l1_2.length : Int)) = true := decide_eq_true c5
 clear c5
 obtain ⟨y225, hy225⟩ : ∃ y_ : List Int, y_ = (l1_2.drop ((ji3) : Int).toNat) := ⟨_, rfl⟩
 replace H : (if l0.length + y225.length < 140737488355328 then (some (l0 ++ y225)) else (none)) = some r := by first | (rw [hy225]; with_reducible exact H) | (have H2_ := (Option.bind_some _ _).symm.trans H; rw [hy225]; with_reducible exact H2_) | (have H2_ := (Option.bind_some _ _).symm.trans H; with_reducible exact H2_) | with_reducible exact H | (rw [hy225]; exact H) | exact H
 have Ny225 := am hy225
 clear hy225
 replace H := it_ H
 obtain ⟨c6, H⟩ := H
 have LMc6 := am c6
 clear c6
 obtain ⟨y229, hy229⟩ : ∃ y_ : List Int, y_ = (l0 ++ y225) := ⟨_, rfl⟩
 replace H : (some y229) = some r := by first | (rw [hy229]; with_reducible exact H) | (have H2_ := (Option.bind_some _ _).symm.trans H; rw [hy229]; with_reducible exact H2_) | (have H2_ := (Option.bind_some _ _).symm.trans H; with_reducible exact H2_) | with_reducible exact H | (rw [hy229]; exact H) | exact H
 have Ny229 := am hy229
 clear hy229
 obtain rfl := Option.some.inj H
 go_enter Try.func43, Try.ntmps43
 go_wp2_with (first | ((with_reducible refine gate_dst (N := 3) rfl ?_); refine box_event ?hg (N := 3) ?hd (cs := #[.int .i64 a1_0, .int .i64 a1_1, .slice A1_2 l1_2.length c1_2, .int .u64 a1_3]) (t := 25) ?hr ?_; (case hd => rfl); (case hg => rfl); (case hr => exact gz); intro gb224 hg w7 hbox hb; replace HO0 := am (Kd.R_below (rz HO0.out) hb); have BK224 := am (hbox); have GW224 := am ((by rw [hg]; exact (by first | exact HK.out.1 | exact (show Kept w _ (fun k_ => P0_ k_) from by repeat (first | (with_reducible first | exact HK.out | apply Kept.alloc | apply Kept.drewN | apply Kept.drew) | exact HK.out)).1) : w.heap.size ≤ gb224)); replace HK := am (Kept.below (S := (fun k_ => P0_ k_)) (by repeat (first | (with_reducible first | exact HK.out | apply Kept.alloc | apply Kept.drewN | apply Kept.drew) | exact HK.out)) hb); have GE224 := am ((bs hg (hz HB.out) : w0.heap.size ≤ gb224)); replace HB := am (below_step (hz HB.out) hb); clear hb hbox hg; obtain ⟨hcz8_0, hcz8_1, hcz8_2, hcz8_3⟩ := cs4 BK224.out; obtain ⟨hfz8_0, hfz8_1, hfz8_2, hfz8_3⟩ := fs4 BK224.out; obtain ⟨Ao9, co9, eo9⟩ := Kd.R_slice HO0.out; subst eo9; have q10 : ((ji3) : Int) ≤ ((l1_2.length : Int) : Int) := of_decide_eq_true az; obtain ⟨i010, hi010, _, hsz10, _⟩ := info_parts info5; have hroom10 : l1_2.length ≤ c1_2 := HC1_2.out; have hC10 : Kd.C (Kd.int .u8) _ A1_2 l1_2.length l1_2 := (Kd.C_kept_now HR1_2.out HK.out); have q010 : (0 : Int) ≤ ((ji3) : Int) := of_decide_eq_true az; have hcut10 := cut_from (P := Try.prog) 22 5 .i64 Try.underlying22 hi010 1 hsz10 A1_2 l1_2.length c1_2 (ji3) q010 q10; have hr10 := Kd.C_drop (m := ((ji3) : Int).toNat) (c := c1_2) hC10 (by omega) hroom10; obtain ⟨A10, hA10⟩ : ∃ A1, A1 = (if c1_2 = ((ji3) : Int).toNat then A1_2 else (A1_2 : Option Addr).map (·.add (((ji3) : Int).toNat * 1))) := ⟨_, rfl⟩; obtain ⟨c10, hc10⟩ : ∃ c1, c1 = c1_2 - ((ji3) : Int).toNat := ⟨_, rfl⟩; have hy10 : y225.length = l1_2.length - ((ji3) : Int).toNat := (by rw [Ny225.out, List.length_drop] <;> omega); rw [show (l1_2).drop ((ji3) : Int).toNat = y225 from Ny225.out.symm] at hr10; replace hr10 : Kd.C (Kd.int .u8) _ A10 y225.length y225 := (by rw [hA10]; exact hr10); rw [← hy10, ← hA10, ← hc10] at hcut10; have HR228 := am hr10; have HC228 := am (show y225.length ≤ c10 from by rw [hy10, hc10]; exact Nat.sub_le_sub_right hroom10 _); clear hr10 hC10 hroom10 hi010 hsz10 hc10; have KY10 := am hy10; have KA10 := am hA10; clear hy10 hA10; have KL10 := am (show ((ji3) : Int).toNat ≤ l1_2.length from by omega); replace q10 := eq_true q10) | ((with_reducible refine gate_builtin (b := .append) (xs := #[.tmp 5, .tmp 17]) rfl ?_); at_builtin; refine Kd.R_append_rows (Kd.int .u8) (w0 := w0) w0.heap.size rfl (.tmp 5) (.tmp 17) 22 5 (.int .u8 0) 1 rfl Try.underlying22 info5 rfl (by decide) (by omega) (.slice Ao9 l0.length co9) l0 y225 _ _ _ (fun k_ => (P0_ k_ ∨ w.heap.size ≤ k_)) (fun _ => False) rfl rfl ?aO ?aR (fun _ _ h => h) (fun _ h => h.elim) ?aF ?aB ?aS ?aL ?_; (case aR => repeat (first | exact (cz HR228.out) | (with_reducible refine Kd.C_alloc ?_ _) | (with_reducible refine Kd.C_drewN ?_ _) | (with_reducible refine Kd.C_drew ?_))); (case aB => exact (hz1 HB.out GE224.out)); (case aF => exact (fun k_ hk => (.inr (Nat.le_trans (by first | exact HK.out.1 | exact (show Kept w _ (fun k_ => P0_ k_) from by repeat (first | (with_reducible first | exact HK.out | apply Kept.alloc | apply Kept.drewN | apply Kept.drew | refine Kept.setCell ?_ (.inr GW224.out) _) | exact HK.out)).1) hk)))); (case aO => exact (rz HO0.out)); (case aS => exact (below_size (hz1 HB.out GE224.out))); (case aL => have := LMc6.out; omega); intro v230 w11 ho hb hg hat; rw [← Ny229.out] at ho; replace BK224 := am (blk_grown (bz BK224.out) hg (Kd.R_ne HO0.out BK224.out (by decide))); replace HB := am (hb); replace HR228 := am ((show Kd.C (Kd.int .u8) w11 A10 y225.length y225 from by rw [Ny225.out, KA10.out]; exact Kd.C_drop (m := ((ji3) : Int).toNat) (c := c1_2) (Kd.C_kept_now HR1_2.out (show Kept w w11 (fun k_ => P0_ k_) from (Kept.of_grown (S := (fun k_ => P0_ k_)) hg (by repeat (first | (with_reducible first | exact HK.out | apply Kept.alloc | apply Kept.drewN | apply Kept.drew | refine Kept.setCell ?_ (.inr GW224.out) _) | exact HK.out)) (fun k_ e_ => (HO0.out.1 k_ e_))))) KL10.out HC1_2.out)); replace HK := am (Kept.of_grown (S := (fun k_ => P0_ k_)) hg (by repeat (first | (with_reducible first | exact HK.out | apply Kept.alloc | apply Kept.drewN | apply Kept.drew | refine Kept.setCell ?_ (.inr GW224.out) _) | exact HK.out)) (fun k_ e_ => (HO0.out.1 k_ e_))); have HO231 := am (ho); clear HO0; clear ho hb hg hat))
 go_ret
 exact ⟨_, by first | rfl | (simp [errW_none, errW_some] <;> rfl) | (simp only [← hji3]; first | rfl | (simp [errW_none, errW_some] <;> rfl)) | (simp [*, errW_none, errW_some] <;> rfl), by (with_reducible repeat (first | apply Kd.R_alloc | apply Kd.R_drewN | apply Kd.R_drew)); exact HO231.out, hz1 HB.out GE224.out, by repeat (first | (with_reducible first | exact HK.out | apply Kept.alloc | apply Kept.drewN | apply Kept.drew | refine Kept.setCell ?_ (.inr GW224.out) _) | exact HK.out)⟩

def upload_known_any.l0 : Nat → List S25 → Int → Int → List Int → Int → Int → Option Bool
 | 0, _, _, _, _, _, _ => none
 | k + 1, l0, a1_0, a1_1, l1_2, a1_3, i => if i < (l0.length : Int) then (if 0 ≤ i then ((some (!((((rd_T25 l0 i).f1) == a1_1) && ((((rd_T25 l0 i).f2).length : Int) == (l1_2.length : Int))))).bind fun b => (if b = true then (upload_known_any.l0 k l0 a1_0 a1_1 l1_2 a1_3 (wrap64 (i + 1))) else (some true))) else none) else (some false)
def upload_known_any.f (k : Nat) (l0 : List S25) (a1_0 : Int) (a1_1 : Int) (l1_2 : List Int) (a1_3 : Int) : Option Bool := upload_known_any.l0 k l0 a1_0 a1_1 l1_2 a1_3 0
theorem upload_known_any.mono_l : ∀ k, (∀ y0 y1 y2 y3 y4 y5, LeO (upload_known_any.l0 k y0 y1 y2 y3 y4 y5) (upload_known_any.l0 (k + 1) y0 y1 y2 y3 y4 y5))
 | 0 => fun _ _ _ _ _ _ r h => by simp [upload_known_any.l0] at h
 | k + 1 => by
  have ih0 := upload_known_any.mono_l k
  intro y0 y1 y2 y3 y4 y5
  unfold upload_known_any.l0
  repeat' first
   | (with_reducible exact ih0 _ _ _ _ _ _)
   | (with_reducible exact LeO.refl _)
   | (with_reducible exact LeO.none _)
   | (with_reducible refine LeO.ite ?_ ?_)
   | (with_reducible refine LeO.bind ?_ (fun _ => ?_))
theorem upload_known_any.mono : ∀ a0 a1 a2 a3 a4 k, LeO (upload_known_any.f k a0 a1 a2 a3 a4) (upload_known_any.f (k + 1) a0 a1 a2 a3 a4) := by
 intro a0 a1 a2 a3 a4 k
 exact upload_known_any.mono_l k _ _ _ _ _ _
set_option maxHeartbeats 8000000 in
set_option maxRecDepth 100000 in
theorem upload_known_any.one (q0 q1 : Int) (Aq : Option Addr) (cq : Nat) (lq : List Int) (q3 : Int) (a1_0 : Int) (a1_1 : Int) (A1_2 : Option Addr) (c1_2 : Nat) (l1_2 : List Int) (a1_3 : Int) (r : Bool) (w : World) {g : Nat} (hrq : Kd.C (Kd.int .u8) w Aq lq.length lq) (hcq : lq.length ≤ cq) (hr1_2 : Kd.C (Kd.int .u8) w A1_2 l1_2.length l1_2) (hc1_2 : l1_2.length ≤ c1_2) (hbox : w.heap[g]? = some (.cells #[.int .i64 a1_0, .int .i64 a1_1, .slice A1_2 l1_2.length c1_2, .int .u64 a1_3] 25 (0, 0))) (h : some (!((q1 == a1_1) && ((lq.length : Int) == (l1_2.length : Int)))) = some r) :
  Calls Try.prog 40 #[.agg #[.int .i64 q0, .int .i64 q1, .slice Aq lq.length cq, .int .u64 q3], .pointer (some ⟨g, 0, none⟩)] w fun e w' => e = .returned (.bool (!r)) ∧ Below w.heap.size w w' := by
 have hu25 := Try.underlying25
 have HRq := am hrq
 have HR1_2 := am hr1_2
 have BKp := am hbox
 have A3 := am h
 clear hrq hr1_2 hbox h
 have HB := am (Below.refl w.heap.size w)
 have A4 := Option.some.inj A3.out
 clear A3
 subst A4
 by_cases c1 : (q1 == a1_1) = true
 ·
  rw [c1, Bool.not_not, Bool.true_and]
  go_enter Try.func40, Try.ntmps40
  go_wp2_with (first | ((with_reducible refine gate_dst (N := 2) rfl ?_); refine box_event ?hg (N := 2) ?hd (cs := #[.int .i64 q0, .int .i64 q1, .slice Aq lq.length cq, .int .u64 q3]) (t := 25) ?hr ?_; (case hd => rfl); (case hg => rfl); (case hr => exact gz); intro gb hg w6 hbox hb; have n0_ := am (blk_below (g := g) (o := .cells #[.int .i64 a1_0, .int .i64 a1_1, .slice A1_2 l1_2.length c1_2, .int .u64 a1_3] 25 (0, 0)) BKp.out hb); have n1_ := am (hbox); have n2_ := am (below_step HB.out hb); clear BKp HB; have BKp := n0_; have BKq := n1_; have HB := n2_; clear n0_ n1_ n2_; clear hb hbox hg; have hcp0 : w6.cell? ⟨g, 1, none⟩ = some (.int .i64 a1_1) := (blk_cell BKp.out 1).trans rfl; have hcp1 : w6.cell? ⟨g, 2, none⟩ = some (.slice A1_2 l1_2.length c1_2) := (blk_cell BKp.out 2).trans rfl; have hcq0 : w6.cell? ⟨gb, 1, none⟩ = some (.int .i64 q1) := (blk_cell BKq.out 1).trans rfl; have hcq1 : w6.cell? ⟨gb, 2, none⟩ = some (.slice Aq lq.length cq) := (blk_cell BKq.out 2).trans rfl))
  go_ret
  exact ⟨rfl, HB.out⟩
 ·
  replace c1 := Bool.eq_false_iff.mpr c1
  rw [c1, Bool.not_not, Bool.false_and]
  go_enter Try.func40, Try.ntmps40
  go_wp2_with (first | ((with_reducible refine gate_dst (N := 2) rfl ?_); refine box_event ?hg (N := 2) ?hd (cs := #[.int .i64 q0, .int .i64 q1, .slice Aq lq.length cq, .int .u64 q3]) (t := 25) ?hr ?_; (case hd => rfl); (case hg => rfl); (case hr => exact gz); intro gb hg w6 hbox hb; have n0_ := am (blk_below (g := g) (o := .cells #[.int .i64 a1_0, .int .i64 a1_1, .slice A1_2 l1_2.length c1_2, .int .u64 a1_3] 25 (0, 0)) BKp.out hb); have n1_ := am (hbox); have n2_ := am (below_step HB.out hb); clear BKp HB; have BKp := n0_; have BKq := n1_; have HB := n2_; clear n0_ n1_ n2_; clear hb hbox hg; have hcp0 : w6.cell? ⟨g, 1, none⟩ = some (.int .i64 a1_1) := (blk_cell BKp.out 1).trans rfl; have hcp1 : w6.cell? ⟨g, 2, none⟩ = some (.slice A1_2 l1_2.length c1_2) := (blk_cell BKp.out 2).trans rfl; have hcq0 : w6.cell? ⟨gb, 1, none⟩ = some (.int .i64 q1) := (blk_cell BKq.out 1).trans rfl; have hcq1 : w6.cell? ⟨gb, 2, none⟩ = some (.slice Aq lq.length cq) := (blk_cell BKq.out 2).trans rfl))
  go_ret
  exact ⟨rfl, HB.out⟩
set_option maxHeartbeats 8000000 in
set_option maxRecDepth 100000 in
theorem upload_known_any.at (k : Nat) (A0 : Option Addr) (c0 : Nat) (l0 : List S25) (a1_0 : Int) (a1_1 : Int) (A1_2 : Option Addr) (c1_2 : Nat) (l1_2 : List Int) (a1_3 : Int) (r : Bool) (w : World) {g : Nat} (hr0 : Kd.C k25 w A0 l0.length l0) (hc0 : l0.length ≤ c0) (hr1_2 : Kd.C (Kd.int .u8) w A1_2 l1_2.length l1_2) (hc1_2 : l1_2.length ≤ c1_2) (hbox : w.heap[g]? = some (.cells #[.int .i64 a1_0, .int .i64 a1_1, .slice A1_2 l1_2.length c1_2, .int .u64 a1_3] 25 (0, 0))) (h : upload_known_any.f k l0 a1_0 a1_1 l1_2 a1_3 = some r) :
  Calls Try.prog 54 #[.slice A0 l0.length c0, .func (.func 40) #[] #[.pointer (some ⟨g, 0, none⟩)]] w fun e w' => (∃ v : Int, e = .returned (.int .i64 v) ∧ decide (v ≥ 0) = r) ∧ Below w.heap.size w w' := by
 have hu25 := Try.underlying25
 have HR0 := am hr0
 have HC0 := am hc0
 have HR1_2 := am hr1_2
 have HC1_2 := am hc1_2
 have BKp := am hbox
 clear hr0 hc0 hr1_2 hc1_2 hbox
 have HB := am (Below.refl w.heap.size w)
 have H' := am (show upload_known_any.l0 k l0 a1_0 a1_1 l1_2 a1_3 0 = some r from h)
 clear h
 go_enter Try.func54, Try.ntmps54
 go_wp2
 go_loopg [8] k (fun kq v8 w' => ∃ (x8_1 : Int), v8 = .int .i64 x8_1 ∧ Aside0 (upload_known_any.l0 kq l0 a1_0 a1_1 l1_2 a1_3 x8_1 = some r) ∧ Aside0 (kq ≤ k) ∧ Aside0 (Below w.heap.size w w'))
 case atStart => exact ⟨(0), (by first | rfl | (simp; done) | (simp [*]; done)), H', ⟨Nat.le_refl _⟩, HB⟩
 case round =>
  clear H' HB
  obtain ⟨x8_1, rfl, HA, HK1, HB⟩ := hrel
  cases gk with
  | zero => exact absurd HA.out (by simp [upload_known_any.l0])
  | succ k1 =>
   have H := HA.out
   clear HA
   simp only [upload_known_any.l0] at H
   by_cases p0 : x8_1 < (l0.length : Int)
   ·
    rw [if_pos p0] at H
    have c0_ : decide (x8_1 < (l0.length : Int)) = true := decide_eq_true p0
    by_cases p1' : ¬ 0 ≤ x8_1
    ·
     rw [if_neg p1'] at H
     exact absurd H (by simp)
    have p1 : 0 ≤ x8_1 := Classical.not_not.mp p1'
    clear p1'
    rw [if_pos p1] at H
    replace H := Option.bind_eq_some_iff.mp H
    obtain ⟨b, A80, H⟩ := H
    have A8 := am A80
    clear A80
    obtain ⟨ad, A_2, c_2, e_, hx_0, hx_1, hx_2, hx_3, hl_2, hi_2⟩ := at_T25 HR0.out x8_1 p1 p0
    cases e_
    replace hx_0 := (HB.out.cell (World.block_lt_of_cell? w _ hx_0)).trans hx_0
    replace hx_1 := (HB.out.cell (World.block_lt_of_cell? w _ hx_1)).trans hx_1
    replace hx_2 := (HB.out.cell (World.block_lt_of_cell? w _ hx_2)).trans hx_2
    replace hx_3 := (HB.out.cell (World.block_lt_of_cell? w _ hx_3)).trans hx_3
    have c1_ : decide (0 ≤ x8_1) = true := decide_eq_true p1
    cases b with
    | true =>
     have H' := am ((if_pos rfl).symm.trans H)
     clear H
     go_wp2_with (go_at_call 40; refine (upload_known_any.one _ _ _ _ _ _ a1_0 a1_1 _ _ l1_2 a1_3 _ _ (Kd.C_below hi_2 HB.out) hl_2 (Kd.C_below HR1_2.out HB.out) HC1_2.out (blk_below (g := g) (o := .cells #[.int .i64 a1_0, .int .i64 a1_1, .slice A1_2 l1_2.length c1_2, .int .u64 a1_3] 25 (0, 0)) BKp.out HB.out) A8.out).mono ?_; rintro e w13 ⟨rfl, hb⟩; have n0_ := am (below_step HB.out hb); clear HB; have HB := n0_; clear n0_ hb)
     go_roundg k1
     case measure => have := HK1.out; omega
     case rel => exact ⟨(wrap64 (x8_1 + 1)), (by first | rfl | (simp; done) | (simp [*]; done)), H', ⟨by have := HK1.out; omega⟩, HB⟩
    | false =>
     have H' := (if_neg (show ¬ (false = true) by decide)).symm.trans H
     clear H
     obtain rfl := Option.some.inj H'
     clear H'
     go_wp2_with (go_at_call 40; refine (upload_known_any.one _ _ _ _ _ _ a1_0 a1_1 _ _ l1_2 a1_3 _ _ (Kd.C_below hi_2 HB.out) hl_2 (Kd.C_below HR1_2.out HB.out) HC1_2.out (blk_below (g := g) (o := .cells #[.int .i64 a1_0, .int .i64 a1_1, .slice A1_2 l1_2.length c1_2, .int .u64 a1_3] 25 (0, 0)) BKp.out HB.out) A8.out).mono ?_; rintro e w13 ⟨rfl, hb⟩; have n0_ := am (below_step HB.out hb); clear HB; have HB := n0_; clear n0_ hb)
     go_ret
     exact ⟨⟨_, rfl, by simp [p1]⟩, HB.out⟩
   ·
    rw [if_neg p0] at H
    have c0_ : decide (x8_1 < (l0.length : Int)) = false := decide_eq_false p0
    obtain rfl := Option.some.inj H
    go_wp2
    go_ret
    exact ⟨⟨_, rfl, by decide⟩, HB.out⟩
set_option maxHeartbeats 8000000 in
theorem upload_known_any.calls (k : Nat) (A0 : Option Addr) (c0 : Nat) (l0 : List S25) (a1_0 : Int) (a1_1 : Int) (A1_2 : Option Addr) (c1_2 : Nat) (l1_2 : List Int) (a1_3 : Int) (r : Bool) (w : World) {g : Nat} (hr0 : Kd.C k25 w A0 l0.length l0) (hc0 : l0.length ≤ c0) (hr1_2 : Kd.C (Kd.int .u8) w A1_2 l1_2.length l1_2) (hc1_2 : l1_2.length ≤ c1_2) (hbox : w.heap[g]? = some (.cells #[.int .i64 a1_0, .int .i64 a1_1, .slice A1_2 l1_2.length c1_2, .int .u64 a1_3] 25 (0, 0))) (h : upload_known_any.f k l0 a1_0 a1_1 l1_2 a1_3 = some r) :
  Calls Try.prog 39 #[.slice A0 l0.length c0, .func (.func 40) #[] #[.pointer (some ⟨g, 0, none⟩)]] w fun e w' => e = .returned (.bool r) ∧ Below w.heap.size w w' := by
 go_enter Try.func39, Try.ntmps39
 go_wp2_with (go_at_call 54; refine (upload_known_any.at k _ _ l0 a1_0 a1_1 _ _ l1_2 a1_3 r _ hr0 hc0 hr1_2 hc1_2 hbox h).mono ?_; rintro e w1 ⟨⟨v, rfl, hv⟩, hb⟩)
 go_ret
 exact ⟨by rw [← hv]; rfl, hb⟩

/-! ### upload_Receive: function 20 -/
mutual
def upload_Receive.j0 : Nat → Bool → Bool → Int → List Int → List (S25) → Int → Int → List Int → Int → Int → List Int → Option (Int × List Int × (List (S25)) × Int)
 | 0, _, _, _, _, _, _, _, _, _, _, _ => none
 | k + 1, x8, x57, x233000, x233001, x233002, x234000, x234001, x234002, x234003, x242000, x242001 => if x57 = true then (none) else (upload_Receive.l0 k x8 x233002 (x233002.length : Int) 0 x234000 x234001 x234002 x234003 x242000 x242001 ([] : List (S25)))
def upload_Receive.l0 : Nat → Bool → List (S25) → Int → Int → Int → Int → List Int → Int → Int → List Int → List (S25) → Option (Int × List Int × (List (S25)) × Int)
 | 0, _, _, _, _, _, _, _, _, _, _, _ => none
 | k + 1, x9, x61, x62, x63, x234000, x234001, x234002, x234003, x242000, x242001, x242002 => if x63 < x62 then (if 0 ≤ x63 then (if x63 < (x61.length : Int) then (if x9 = true then (upload_Receive.j2 k x9 x61 x62 x63 false x234000 x234001 x234002 x234003 x242000 x242001 x242002 ((rd_T25 x61 x63).f0) ((rd_T25 x61 x63).f1) ((rd_T25 x61 x63).f2) ((rd_T25 x61 x63).f3)) else ((upload_before.f x234000 x234001 x234002 x234003 ((rd_T25 x61 x63).f0) ((rd_T25 x61 x63).f1) ((rd_T25 x61 x63).f2) ((rd_T25 x61 x63).f3)).bind fun t254 => (upload_Receive.j2 k x9 x61 x62 x63 t254 x234000 x234001 x234002 x234003 x242000 x242001 x242002 ((rd_T25 x61 x63).f0) ((rd_T25 x61 x63).f1) ((rd_T25 x61 x63).f2) ((rd_T25 x61 x63).f3)))) else (none)) else (none)) else (if x9 = true then (some (x242000, x242001, x242002, 0)) else ((upload_copied.f x234000 x234001 x234002 x234003).bind fun bt243 => (if x242002.length < 2932031007402 then (some (x242000, x242001, (x242002 ++ [(⟨bt243.1, bt243.2.1, bt243.2.2.1, bt243.2.2.2⟩ : S25)]), 0)) else (none))))
def upload_Receive.j2 : Nat → Bool → List (S25) → Int → Int → Bool → Int → Int → List Int → Int → Int → List Int → List (S25) → Int → Int → List Int → Int → Option (Int × List Int × (List (S25)) × Int)
 | 0, _, _, _, _, _, _, _, _, _, _, _, _, _, _, _, _ => none
 | k + 1, x9, x61, x62, x63, x73, x234000, x234001, x234002, x234003, x242000, x242001, x242002, x254000, x254001, x254002, x254003 => if x73 = true then ((upload_copied.f x234000 x234001 x234002 x234003).bind fun bt255 => (if x242002.length < 2932031007402 then ((some (x242002 ++ [(⟨bt255.1, bt255.2.1, bt255.2.2.1, bt255.2.2.2⟩ : S25)] : List (S25))).bind fun y261 => ((upload_copied.f x254000 x254001 x254002 x254003).bind fun bt264 => (if y261.length < 2932031007402 then (upload_Receive.l0 k true x61 x62 (wrap64 (x63 + 1)) x234000 x234001 x234002 x234003 x242000 x242001 (y261 ++ [(⟨bt264.1, bt264.2.1, bt264.2.2.1, bt264.2.2.2⟩ : S25)])) else (none)))) else (none))) else ((upload_copied.f x254000 x254001 x254002 x254003).bind fun bt273 => (if x242002.length < 2932031007402 then (upload_Receive.l0 k x9 x61 x62 (wrap64 (x63 + 1)) x234000 x234001 x234002 x234003 x242000 x242001 (x242002 ++ [(⟨bt273.1, bt273.2.1, bt273.2.2.1, bt273.2.2.2⟩ : S25)])) else (none)))
def upload_Receive.l1 : Nat → List (S25) → Int → Int → Int → List Int → List (S25) → Option (Int × List Int × (List (S25)) × Int)
 | 0, _, _, _, _, _, _ => none
 | k + 1, x105, x106, x107, x242000, x242001, x242002 => if x107 < x106 then (if 0 ≤ x107 then (if x107 < (x105.length : Int) then (if ((rd_T25 x105 x107).f1) ≤ (x242001.length : Int) then ((upload_extended.f x242001 ((rd_T25 x105 x107).f0) ((rd_T25 x105 x107).f1) ((rd_T25 x105 x107).f2) ((rd_T25 x105 x107).f3)).bind fun t287 => (upload_Receive.l1 k x105 x106 (wrap64 (x107 + 1)) x242000 t287 x242002)) else ((upload_copied.f ((rd_T25 x105 x107).f0) ((rd_T25 x105 x107).f1) ((rd_T25 x105 x107).f2) ((rd_T25 x105 x107).f3)).bind fun bt290 => (if x242002.length < 2932031007402 then (upload_Receive.l1 k x105 x106 (wrap64 (x107 + 1)) x242000 x242001 (x242002 ++ [(⟨bt290.1, bt290.2.1, bt290.2.2.1, bt290.2.2.2⟩ : S25)])) else (none)))) else (none)) else (none)) else (some (x242000, x242001, x242002, 0))
end
def upload_Receive.f (k : Nat) (a0_0 : Int) (l0_1 : List Int) (l0_2 : List (S25)) (a1_0 : Int) (a1_1 : Int) (l1_2 : List Int) (a1_3 : Int) : Option (Int × List Int × (List (S25)) × Int) := (upload_valid.f k a0_0 l0_1 l0_2).bind fun t235 => (if t235 = true then ((upload_check.f k a1_0 a1_1 l1_2 a1_3).bind fun t236 => (if t236 = 0 then (if a1_0 = a0_0 then ((upload_conflict.f k a0_0 l0_1 l0_2 a1_0 a1_1 l1_2 a1_3).bind fun t237 => (if t237 = true then (none) else ((bytes_Clone.f l0_1).bind fun t238 => (if a1_1 > (l0_1.length : Int) then ((upload_known_any.f k l0_2 a1_0 a1_1 l1_2 a1_3).bind fun t242 => (if t242 = true then (upload_Receive.j0 k t242 false a0_0 l0_1 l0_2 a1_0 a1_1 l1_2 a1_3 a0_0 t238) else (upload_Receive.j0 k t242 (decide ((l0_2.length : Int) ≥ 1024)) a0_0 l0_1 l0_2 a1_0 a1_1 l1_2 a1_3 a0_0 t238))) else ((upload_extended.f t238 a1_0 a1_1 l1_2 a1_3).bind fun t282 => (upload_Receive.l1 k l0_2 (l0_2.length : Int) 0 a0_0 t282 ([] : List (S25)))))))) else (some (0, ([] : List Int), ([] : List (S25)), 6))) else (some (0, ([] : List Int), ([] : List (S25)), t236)))) else (none))
theorem upload_Receive.mono_l : ∀ k, (∀ y0 y1 y2 y3 y4 y5 y6 y7 y8 y9 y10, LeO (upload_Receive.j0 k y0 y1 y2 y3 y4 y5 y6 y7 y8 y9 y10) (upload_Receive.j0 (k + 1) y0 y1 y2 y3 y4 y5 y6 y7 y8 y9 y10)) ∧ (∀ y0 y1 y2 y3 y4 y5 y6 y7 y8 y9 y10, LeO (upload_Receive.l0 k y0 y1 y2 y3 y4 y5 y6 y7 y8 y9 y10) (upload_Receive.l0 (k + 1) y0 y1 y2 y3 y4 y5 y6 y7 y8 y9 y10)) ∧ (∀ y0 y1 y2 y3 y4 y5 y6 y7 y8 y9 y10 y11 y12 y13 y14 y15, LeO (upload_Receive.j2 k y0 y1 y2 y3 y4 y5 y6 y7 y8 y9 y10 y11 y12 y13 y14 y15) (upload_Receive.j2 (k + 1) y0 y1 y2 y3 y4 y5 y6 y7 y8 y9 y10 y11 y12 y13 y14 y15)) ∧ (∀ y0 y1 y2 y3 y4 y5, LeO (upload_Receive.l1 k y0 y1 y2 y3 y4 y5) (upload_Receive.l1 (k + 1) y0 y1 y2 y3 y4 y5))
 | 0 => ⟨fun _ _ _ _ _ _ _ _ _ _ _ r h => by simp [upload_Receive.j0] at h, fun _ _ _ _ _ _ _ _ _ _ _ r h => by simp [upload_Receive.l0] at h, fun _ _ _ _ _ _ _ _ _ _ _ _ _ _ _ _ r h => by simp [upload_Receive.j2] at h, fun _ _ _ _ _ _ r h => by simp [upload_Receive.l1] at h⟩
 | k + 1 => by
  obtain ⟨ih0, ih1, ih2, ih3⟩ := upload_Receive.mono_l k
  refine ⟨?_, ?_, ?_, ?_⟩
  ·
   intro y0 y1 y2 y3 y4 y5 y6 y7 y8 y9 y10
   unfold upload_Receive.j0
   repeat' first
   | (with_reducible exact ih0 _ _ _ _ _ _ _ _ _ _ _)
   | (with_reducible exact ih1 _ _ _ _ _ _ _ _ _ _ _)
   | (with_reducible exact ih2 _ _ _ _ _ _ _ _ _ _ _ _ _ _ _ _)
   | (with_reducible exact ih3 _ _ _ _ _ _)
   | (with_reducible exact upload_check.mono _ _ _ _ _)
   | (with_reducible exact upload_conflict.mono _ _ _ _ _ _ _ _)
   | (with_reducible exact upload_known_any.mono _ _ _ _ _ _)
   | (with_reducible exact upload_valid.mono _ _ _ _)
   | (with_reducible exact LeO.refl _)
   | (with_reducible exact LeO.none _)
   | (with_reducible refine LeO.ite ?_ ?_)
   | (with_reducible refine LeO.bind ?_ (fun _ => ?_))
   | exact ih0 _ _ _ _ _ _ _ _ _ _ _
   | exact ih1 _ _ _ _ _ _ _ _ _ _ _
   | exact ih2 _ _ _ _ _ _ _ _ _ _ _ _ _ _ _ _
   | exact ih3 _ _ _ _ _ _
   | exact upload_check.mono _ _ _ _ _
   | exact upload_conflict.mono _ _ _ _ _ _ _ _
   | exact upload_known_any.mono _ _ _ _ _ _
   | exact upload_valid.mono _ _ _ _
   | exact LeO.none _
   | refine LeO.ite ?_ ?_
   | refine LeO.bind ?_ (fun _ => ?_)
  ·
   intro y0 y1 y2 y3 y4 y5 y6 y7 y8 y9 y10
   unfold upload_Receive.l0
   repeat' first
   | (with_reducible exact ih0 _ _ _ _ _ _ _ _ _ _ _)
   | (with_reducible exact ih1 _ _ _ _ _ _ _ _ _ _ _)
   | (with_reducible exact ih2 _ _ _ _ _ _ _ _ _ _ _ _ _ _ _ _)
   | (with_reducible exact ih3 _ _ _ _ _ _)
   | (with_reducible exact upload_check.mono _ _ _ _ _)
   | (with_reducible exact upload_conflict.mono _ _ _ _ _ _ _ _)
   | (with_reducible exact upload_known_any.mono _ _ _ _ _ _)
   | (with_reducible exact upload_valid.mono _ _ _ _)
   | (with_reducible exact LeO.refl _)
   | (with_reducible exact LeO.none _)
   | (with_reducible refine LeO.ite ?_ ?_)
   | (with_reducible refine LeO.bind ?_ (fun _ => ?_))
   | exact ih0 _ _ _ _ _ _ _ _ _ _ _
   | exact ih1 _ _ _ _ _ _ _ _ _ _ _
   | exact ih2 _ _ _ _ _ _ _ _ _ _ _ _ _ _ _ _
   | exact ih3 _ _ _ _ _ _
   | exact upload_check.mono _ _ _ _ _
   | exact upload_conflict.mono _ _ _ _ _ _ _ _
   | exact upload_known_any.mono _ _ _ _ _ _
   | exact upload_valid.mono _ _ _ _
   | exact LeO.none _
   | refine LeO.ite ?_ ?_
   | refine LeO.bind ?_ (fun _ => ?_)
  ·
   intro y0 y1 y2 y3 y4 y5 y6 y7 y8 y9 y10 y11 y12 y13 y14 y15
   unfold upload_Receive.j2
   repeat' first
   | (with_reducible exact ih0 _ _ _ _ _ _ _ _ _ _ _)
   | (with_reducible exact ih1 _ _ _ _ _ _ _ _ _ _ _)
   | (with_reducible exact ih2 _ _ _ _ _ _ _ _ _ _ _ _ _ _ _ _)
   | (with_reducible exact ih3 _ _ _ _ _ _)
   | (with_reducible exact upload_check.mono _ _ _ _ _)
   | (with_reducible exact upload_conflict.mono _ _ _ _ _ _ _ _)
   | (with_reducible exact upload_known_any.mono _ _ _ _ _ _)
   | (with_reducible exact upload_valid.mono _ _ _ _)
   | (with_reducible exact LeO.refl _)
   | (with_reducible exact LeO.none _)
   | (with_reducible refine LeO.ite ?_ ?_)
   | (with_reducible refine LeO.bind ?_ (fun _ => ?_))
   | exact ih0 _ _ _ _ _ _ _ _ _ _ _
   | exact ih1 _ _ _ _ _ _ _ _ _ _ _
   | exact ih2 _ _ _ _ _ _ _ _ _ _ _ _ _ _ _ _
   | exact ih3 _ _ _ _ _ _
   | exact upload_check.mono _ _ _ _ _
   | exact upload_conflict.mono _ _ _ _ _ _ _ _
   | exact upload_known_any.mono _ _ _ _ _ _
   | exact upload_valid.mono _ _ _ _
   | exact LeO.none _
   | refine LeO.ite ?_ ?_
   | refine LeO.bind ?_ (fun _ => ?_)
  ·
   intro y0 y1 y2 y3 y4 y5
   unfold upload_Receive.l1
   repeat' first
   | (with_reducible exact ih0 _ _ _ _ _ _ _ _ _ _ _)
   | (with_reducible exact ih1 _ _ _ _ _ _ _ _ _ _ _)
   | (with_reducible exact ih2 _ _ _ _ _ _ _ _ _ _ _ _ _ _ _ _)
   | (with_reducible exact ih3 _ _ _ _ _ _)
   | (with_reducible exact upload_check.mono _ _ _ _ _)
   | (with_reducible exact upload_conflict.mono _ _ _ _ _ _ _ _)
   | (with_reducible exact upload_known_any.mono _ _ _ _ _ _)
   | (with_reducible exact upload_valid.mono _ _ _ _)
   | (with_reducible exact LeO.refl _)
   | (with_reducible exact LeO.none _)
   | (with_reducible refine LeO.ite ?_ ?_)
   | (with_reducible refine LeO.bind ?_ (fun _ => ?_))
   | exact ih0 _ _ _ _ _ _ _ _ _ _ _
   | exact ih1 _ _ _ _ _ _ _ _ _ _ _
   | exact ih2 _ _ _ _ _ _ _ _ _ _ _ _ _ _ _ _
   | exact ih3 _ _ _ _ _ _
   | exact upload_check.mono _ _ _ _ _
   | exact upload_conflict.mono _ _ _ _ _ _ _ _
   | exact upload_known_any.mono _ _ _ _ _ _
   | exact upload_valid.mono _ _ _ _
   | exact LeO.none _
   | refine LeO.ite ?_ ?_
   | refine LeO.bind ?_ (fun _ => ?_)
theorem upload_Receive.mono : ∀ a0 a1 a2 a3 a4 a5 a6 k, LeO (upload_Receive.f k a0 a1 a2 a3 a4 a5 a6) (upload_Receive.f (k + 1) a0 a1 a2 a3 a4 a5 a6) := by
 intro a0 a1 a2 a3 a4 a5 a6 k
 obtain ⟨ih0, ih1, ih2, ih3⟩ := upload_Receive.mono_l k
 unfold upload_Receive.f
 repeat' first
   | (with_reducible exact ih0 _ _ _ _ _ _ _ _ _ _ _)
   | (with_reducible exact ih1 _ _ _ _ _ _ _ _ _ _ _)
   | (with_reducible exact ih2 _ _ _ _ _ _ _ _ _ _ _ _ _ _ _ _)
   | (with_reducible exact ih3 _ _ _ _ _ _)
   | (with_reducible exact upload_check.mono _ _ _ _ _)
   | (with_reducible exact upload_conflict.mono _ _ _ _ _ _ _ _)
   | (with_reducible exact upload_known_any.mono _ _ _ _ _ _)
   | (with_reducible exact upload_valid.mono _ _ _ _)
   | (with_reducible exact LeO.refl _)
   | (with_reducible exact LeO.none _)
   | (with_reducible refine LeO.ite ?_ ?_)
   | (with_reducible refine LeO.bind ?_ (fun _ => ?_))
   | exact ih0 _ _ _ _ _ _ _ _ _ _ _
   | exact ih1 _ _ _ _ _ _ _ _ _ _ _
   | exact ih2 _ _ _ _ _ _ _ _ _ _ _ _ _ _ _ _
   | exact ih3 _ _ _ _ _ _
   | exact upload_check.mono _ _ _ _ _
   | exact upload_conflict.mono _ _ _ _ _ _ _ _
   | exact upload_known_any.mono _ _ _ _ _ _
   | exact upload_valid.mono _ _ _ _
   | exact LeO.none _
   | refine LeO.ite ?_ ?_
   | refine LeO.bind ?_ (fun _ => ?_)
def upload_Receive.T10 : Bool × List (List Nat × List Nat) := (true, [([], []), ([0], [0]), ([], []), ([2], [2]), ([3], [3]), ([1, 4], [1, 4]), ([], []), ([6, 5, 4, 0, 1, 2, 3, 4, 5, 6], [5, 6])])
def upload_Receive.B10 : List Nat := [0, 1, 0, 4, 12, 31, 0, 127]
theorem upload_Receive.tab10 : rtab .any (opsOf Try.f20 10) = upload_Receive.T10 := by kernel_rfl
theorem upload_Receive.bits10 : waitsOk upload_Receive.T10.2 upload_Receive.B10 = true := by kernel_rfl
def upload_Receive.T20 : Bool × List (List Nat × List Nat) := (true, [([], []), ([0], [0]), ([], []), ([2], [2]), ([3], [3]), ([1, 4, 3], [1, 4]), ([0, 1, 2, 3, 4, 5], []), ([6, 5, 5, 0, 1, 2, 3, 4, 5], [5, 6]), ([7, 0, 1, 2, 3, 4, 5, 6, 7], [])])
def upload_Receive.B20 : List Nat := [0, 1, 0, 4, 12, 31, 63, 127, 255]
theorem upload_Receive.tab20 : rtab .any (opsOf Try.f20 20) = upload_Receive.T20 := by kernel_rfl
theorem upload_Receive.bits20 : waitsOk upload_Receive.T20.2 upload_Receive.B20 = true := by kernel_rfl
def upload_Receive.T21 : Bool × List (List Nat × List Nat) := (true, [([], []), ([0], [0]), ([], []), ([2], [2]), ([3], [3]), ([1, 4, 3], [1, 4]), ([0, 1, 2, 3, 4, 5], []), ([6, 5, 5, 0, 1, 2, 3, 4, 5], [5, 6])])
def upload_Receive.B21 : List Nat := [0, 1, 0, 4, 12, 31, 63, 127]
theorem upload_Receive.tab21 : rtab .any (opsOf Try.f20 21) = upload_Receive.T21 := by kernel_rfl
theorem upload_Receive.bits21 : waitsOk upload_Receive.T21.2 upload_Receive.B21 = true := by kernel_rfl
def upload_Receive.T24 : Bool × List (List Nat × List Nat) := (true, [([], []), ([0], [0]), ([], []), ([2], [2]), ([3], [3]), ([1, 4, 3], [1, 4]), ([0, 1, 2, 3, 4, 5], []), ([6, 5, 5, 0, 1, 2, 3, 4, 5], [5, 6])])
def upload_Receive.B24 : List Nat := [0, 1, 0, 4, 12, 31, 63, 127]
theorem upload_Receive.tab24 : rtab .any (opsOf Try.f20 24) = upload_Receive.T24 := by kernel_rfl
theorem upload_Receive.bits24 : waitsOk upload_Receive.T24.2 upload_Receive.B24 = true := by kernel_rfl
def upload_Receive.T32 : Bool × List (List Nat × List Nat) := (true, [([], []), ([0], [0]), ([], []), ([2], [2]), ([3], [3]), ([1, 4, 3], [1, 4]), ([0, 1, 2, 3, 4, 5], []), ([6, 5, 5, 0, 1, 2, 3, 4, 5], [5, 6])])
def upload_Receive.B32 : List Nat := [0, 1, 0, 4, 12, 31, 63, 127]
theorem upload_Receive.tab32 : rtab .any (opsOf Try.f20 32) = upload_Receive.T32 := by kernel_rfl
theorem upload_Receive.bits32 : waitsOk upload_Receive.T32.2 upload_Receive.B32 = true := by kernel_rfl

end Go.Proofs.Ytglpnbcockancaa.Q
