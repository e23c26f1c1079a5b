/- Made by wip/myprint.py of this session (it drives the kit's printer): what the calls of the Go functions come to, as plain Lean functions, and the row of a law over them; without conditions. -/
import Derived.Test.YtipjfhakcceebaaQx0
import Derived.Test.YtipjfhakcceebaaQx5
import Derived.Test.YtipjfhakcceebaaQx10
import Derived.Test.YtipjfhakcceebaaQx14
namespace Go.Proofs.Ytipjfhakcceebaa.Q
open Go.RowKit Go.Proofs.YtipjfhakcceebaaW.PrintWords Go.Proofs.YtipjfhakcceebaaW.PrintLast Go.Proofs.YtipjfhakcceebaaW.PrintMore
attribute [local go_sem] max2_int min2_int max_two min_two max_three min_three max_four min_four   -- for this text's walks alone
set_option linter.unusedVariables false
set_option linter.unusedSimpArgs false

/-! ### examboardlaw10_CodecEncodes: function 3 -/
def examboardlaw10_CodecEncodes.f (k : Nat) (a0_0 : Int) (a0_1 : Int) (a0_2 : Int) (a0_3 : ByteArray) (l0_4 : List (S24)) : Option (Bool) := (codec_Encode.f k a0_0 a0_1 a0_2 a0_3 l0_4).bind fun bt430 => ((examboardref10_Encode.f k a0_0 a0_1 a0_2 a0_3 l0_4).bind fun bt434 => (if bt430.2 = bt434.2 then (if (strOfNums bt430.1).toList = (strOfNums bt434.1).toList then ((codec_Valid.f k a0_0 a0_1 a0_2 a0_3 l0_4).bind fun t438 => ((examboardref10_Valid.f k a0_0 a0_1 a0_2 a0_3 l0_4).bind fun t439 => (if (t438 == t439) = true then ((examboardlaw10_awake.f k).bind fun t440 => (some t440)) else (none)))) else (none)) else (none)))
theorem examboardlaw10_CodecEncodes.mono : ∀ a0 a1 a2 a3 a4 k, LeO (examboardlaw10_CodecEncodes.f k a0 a1 a2 a3 a4) (examboardlaw10_CodecEncodes.f (k + 1) a0 a1 a2 a3 a4) := by
 intro a0 a1 a2 a3 a4 k
 unfold examboardlaw10_CodecEncodes.f
 repeat' first
   | (with_reducible exact codec_Encode.mono _ _ _ _ _ _)
   | (with_reducible exact codec_Valid.mono _ _ _ _ _ _)
   | (with_reducible exact examboardlaw10_awake.mono _)
   | (with_reducible exact examboardref10_Encode.mono _ _ _ _ _ _)
   | (with_reducible exact examboardref10_Valid.mono _ _ _ _ _ _)
   | (with_reducible exact LeO.refl _)
   | (with_reducible exact LeO.none _)
   | (with_reducible refine LeO.ite ?_ ?_)
   | (with_reducible refine LeO.bind ?_ (fun _ => ?_))
   | exact codec_Encode.mono _ _ _ _ _ _
   | exact codec_Valid.mono _ _ _ _ _ _
   | exact examboardlaw10_awake.mono _
   | exact examboardref10_Encode.mono _ _ _ _ _ _
   | exact examboardref10_Valid.mono _ _ _ _ _ _
   | exact LeO.none _
   | refine LeO.ite ?_ ?_
   | refine LeO.bind ?_ (fun _ => ?_)
def examboardlaw10_CodecEncodes.T3 : Bool × List (List Nat × List Nat) := (true, [([], []), ([], []), ([0, 1], [0, 1]), ([2], [2]), ([3], [3]), ([4, 3], [3, 4]), ([3], [3]), ([6, 3], [3, 6]), ([5, 7, 3], [3, 5, 7]), ([3, 8], [3, 8]), ([9, 3], [9]), ([10], [10]), ([11, 10, 10], [10, 11]), ([10], [10]), ([13, 12, 10], [10, 13]), ([12, 14, 10], [10, 12, 14]), ([10, 15], [10, 15]), ([16, 14], [16]), ([17, 17], [17]), ([17, 18], [17, 18]), ([19, 18, 0, 1, 2, 3, 4, 5, 6, 7, 8, 9, 10, 11, 12, 13, 14, 15, 16, 17, 18, 19], [19])])
def examboardlaw10_CodecEncodes.B3 : List Nat := [0, 0, 3, 7, 15, 31, 15, 79, 255, 511, 1023, 2047, 4095, 2047, 16383, 32767, 65535, 131071, 262143, 524287, 1048575]
theorem examboardlaw10_CodecEncodes.tab3 : rtab .any (opsOf Try.f3 3) = examboardlaw10_CodecEncodes.T3 := by kernel_rfl
theorem examboardlaw10_CodecEncodes.bits3 : waitsOk examboardlaw10_CodecEncodes.T3.2 examboardlaw10_CodecEncodes.B3 = true := by kernel_rfl
theorem examboardlaw10_CodecEncodes.conv {P : Program} {src dst : TypeId} {v : Value} {s : ByteArray} {w : World} (h : (convert src dst v).run P w = .ok (.string s) w) : ∃ S : World → Prop, S w ∧ ∀ w', S w' ↔ (convert src dst v).run P w' = .ok (.string s) w' := ⟨fun w' => (convert src dst v).run P w' = .ok (.string s) w', h, fun _ => Iff.rfl⟩
set_option maxHeartbeats 8000000 in
set_option maxRecDepth 100000 in
theorem examboardlaw10_CodecEncodes.calls (k : Nat) (a0_0 : Int) (a0_1 : Int) (a0_2 : Int) (a0_3 : ByteArray) (A0_4 : Option Addr) (c0_4 : Nat) (l0_4 : List (S24)) (r : Bool) (w : World) (hr0_4 : Kd.C k24 w A0_4 l0_4.length l0_4) (hc0_4 : l0_4.length ≤ c0_4) (h : examboardlaw10_CodecEncodes.f k a0_0 a0_1 a0_2 a0_3 l0_4 = some r) :
  Calls Try.prog 3 #[.agg #[.int .i64 a0_0, .int .i64 a0_1, .int .i64 a0_2, .string a0_3, .slice A0_4 l0_4.length c0_4]] w fun e w' => e = .returned (.bool r) ∧ Below w.heap.size w w' := by
 have hu24 := Try.underlying24
 have HR0_4 := am hr0_4
 have HC0_4 := am hc0_4
 clear hr0_4 hc0_4
 have HB := am (Below.refl w.heap.size w)
 have H : ((codec_Encode.f k a0_0 a0_1 a0_2 a0_3 l0_4).bind fun bt430 => ((examboardref10_Encode.f k a0_0 a0_1 a0_2 a0_3 l0_4).bind fun bt434 => (if bt430.2 = bt434.2 then (if (strOfNums bt430.1).toList = (strOfNums bt434.1).toList then ((codec_Valid.f k a0_0 a0_1 a0_2 a0_3 l0_4).bind fun t438 => ((examboardref10_Valid.f k a0_0 a0_1 a0_2 a0_3 l0_4).bind fun t439 => (if (t438 == t439) = true then ((examboardlaw10_awake.f k).bind fun t440 => (some t440)) else (none)))) else (none)) else (none)))) = some r := h
 clear h
 replace H := Option.bind_eq_some_iff.mp H
 obtain ⟨⟨t430, t433⟩, A20, H⟩ := H
 replace H : ((examboardref10_Encode.f k a0_0 a0_1 a0_2 a0_3 l0_4).bind fun bt434 => (if t433 = bt434.2 then (if (strOfNums t430).toList = (strOfNums bt434.1).toList then ((codec_Valid.f k a0_0 a0_1 a0_2 a0_3 l0_4).bind fun t438 => ((examboardref10_Valid.f k a0_0 a0_1 a0_2 a0_3 l0_4).bind fun t439 => (if (t438 == t439) = true then ((examboardlaw10_awake.f k).bind fun t440 => (some t440)) else (none)))) else (none)) else (none))) = some r := H
 have A2 := am A20
 clear A20
 replace H := Option.bind_eq_some_iff.mp H
 obtain ⟨⟨t434, t437⟩, A30, H⟩ := H
 replace H : (if t433 = t437 then (if (strOfNums t430).toList = (strOfNums t434).toList then ((codec_Valid.f k a0_0 a0_1 a0_2 a0_3 l0_4).bind fun t438 => ((examboardref10_Valid.f k a0_0 a0_1 a0_2 a0_3 l0_4).bind fun t439 => (if (t438 == t439) = true then ((examboardlaw10_awake.f k).bind fun t440 => (some t440)) else (none)))) else (none)) else (none)) = some r := H
 have A3 := am A30
 clear A30
 replace H := it_ H
 obtain ⟨c4, H⟩ := H
 have c4b0 : (t433 == t437) = true := beq_iff_eq.mpr c4
 have c4b1 : (t433 != t437) = false := bne_eq_false_iff_eq.mpr c4
 clear c4
 replace H := it_ H
 obtain ⟨c5, H⟩ := H
 have c5b0 : ((strOfNums t430).toList == (strOfNums t434).toList) = true := beq_iff_eq.mpr c5
 have c5b1 : ((strOfNums t430).toList != (strOfNums t434).toList) = false := bne_eq_false_iff_eq.mpr c5
 clear c5
 replace H := Option.bind_eq_some_iff.mp H
 obtain ⟨t438, A60, H⟩ := H
 replace H : ((examboardref10_Valid.f k a0_0 a0_1 a0_2 a0_3 l0_4).bind fun t439 => (if (t438 == t439) = true then ((examboardlaw10_awake.f k).bind fun t440 => (some t440)) else (none))) = some r := H
 have A6 := am A60
 clear A60
 replace H := Option.bind_eq_some_iff.mp H
 obtain ⟨t439, A70, H⟩ := H
 replace H : (if (t438 == t439) = true then ((examboardlaw10_awake.f k).bind fun t440 => (some t440)) else (none)) = some r := H
 have A7 := am A70
 clear A70
 replace H := it_ H
 obtain ⟨c8, H⟩ := H
 have c8b0 : (t438 == t439) = true := c8
 (try (have c8b1 : decide (t438 = t439) = true := by simpa using c8))
 (try (have c8b2 : (t438 == t439) = true := by simpa using c8))
 clear c8
 replace H := Option.bind_eq_some_iff.mp H
 obtain ⟨t440, A90, H⟩ := H
 replace H : (some t440) = some r := H
 have A9 := am A90
 clear A90
 obtain rfl := Option.some.inj H
 go_enter Try.func3, Try.ntmps3
 try go_wp2_with (first | ((with_reducible refine gate_dst (N := 1) rfl ?_); refine box_event ?hg (N := 1) ?hd (cs := #[.int .i64 a0_0, .int .i64 a0_1, .int .i64 a0_2, .string a0_3, .slice A0_4 l0_4.length c0_4]) (t := 24) ?hr ?_; (case hd => rfl); (case hg => rfl); (case hr => exact gz); intro gb429 hg w10 hbox hb; have BK429 := am (hbox); have GW429 := am ((bs hg (hz HB.out) : w.heap.size ≤ gb429)); have GE429 := am ((bs hg (hz HB.out) : w.heap.size ≤ gb429)); replace HB := am (below_step (hz HB.out) hb); clear hb hbox hg; obtain ⟨hcz11_0, hcz11_1, hcz11_2, hcz11_3, hcz11_4⟩ := cs5 BK429.out; obtain ⟨hfz11_0, hfz11_1, hfz11_2, hfz11_3, hfz11_4⟩ := fs5 BK429.out) | ((with_reducible refine gate_callee (f := 8) rfl ?_); refine goesL_ (some 9) rfl rfl Try.func8 (by kernel_rfl) rfl #[.agg #[.int .i64 a0_0, .int .i64 a0_1, .int .i64 a0_2, .string a0_3, .slice A0_4 l0_4.length c0_4]] rfl lz ?_; (with_reducible refine (codec_Encode.calls k a0_0 a0_1 a0_2 a0_3 _ _ l0_4 t430 t433 _ ?side1 ?side2 A2.out).mono ?_); (case side1 => exact cz (Kd.C_below HR0_4.out HB.out)); (case side2 => exact HC0_4.out); rintro e w12 ⟨v431, rfl, ho0, hb⟩; refine ⟨_, rfl, ?_⟩; have HO432 := am (Kd.R_lower ho0 (below_size (hz1 HB.out GE429.out))); replace BK429 := am (blk_below (bz BK429.out) hb); replace HB := am (below_step (hz1 HB.out GE429.out) hb); (try clear hb); (try clear hb2); (try clear hk); (try clear hi); (try clear ho0); obtain ⟨hcz13_0, hcz13_1, hcz13_2, hcz13_3, hcz13_4⟩ := cs5 BK429.out; obtain ⟨hfz13_0, hfz13_1, hfz13_2, hfz13_3, hfz13_4⟩ := fs5 BK429.out) | ((with_reducible refine gate_callee (f := 9) rfl ?_); refine goesL_ (some 14) rfl rfl Try.func9 (by kernel_rfl) rfl #[.agg #[.int .i64 a0_0, .int .i64 a0_1, .int .i64 a0_2, .string a0_3, .slice A0_4 l0_4.length c0_4]] rfl lz ?_; (with_reducible refine (examboardref10_Encode.calls k a0_0 a0_1 a0_2 a0_3 _ _ l0_4 t434 t437 _ ?side1 ?side2 A3.out).mono ?_); (case side1 => exact cz (Kd.C_below HR0_4.out HB.out)); (case side2 => exact HC0_4.out); rintro e w14 ⟨v435, rfl, ho0, hb⟩; refine ⟨_, rfl, ?_⟩; have HO436 := am (Kd.R_lower (Kd.R_new' ho0 (Kd.R_lt (rz HO432.out))) (below_size (hz1 HB.out GE429.out))); replace HO432 := am (Kd.R_elder' (rz HO432.out) (Kd.R_base ho0) hb); replace BK429 := am (blk_below (bz BK429.out) hb); replace HB := am (below_step (hz1 HB.out GE429.out) hb); (try clear hb); (try clear hb2); (try clear hk); (try clear hi); (try clear ho0)))
 replace HO432 := am (Kd.R_drew HO432.out)
 replace HO436 := am (Kd.R_drew HO436.out)
 replace BK429 := am (blk_drew BK429.out)
 replace HB := am (below_drew1 HB.out)
 have hcv16 := own_string (P := Try.prog) Try.underlying25 Try.underlying5 Try.underlying9 (Kd.own_of_R HO432.out)
 have hcv17 := own_string (P := Try.prog) Try.underlying25 Try.underlying5 Try.underlying9 (Kd.own_of_R HO436.out)
 obtain ⟨Sc0, hSc0, hSd0⟩ := examboardlaw10_CodecEncodes.conv hcv16
 obtain ⟨Sc1, hSc1, hSd1⟩ := examboardlaw10_CodecEncodes.conv hcv17
 refine start_ (n := 21) (S := fun w' => w'.cell? ⟨gb429, 0, none⟩ = some (.int .i64 a0_0) ∧ w'.cell? ⟨gb429, 1, none⟩ = some (.int .i64 a0_1) ∧ w'.cell? ⟨gb429, 2, none⟩ = some (.int .i64 a0_2) ∧ w'.cell? ⟨gb429, 3, none⟩ = some (.string a0_3) ∧ w'.cell? ⟨gb429, 4, none⟩ = some (.slice A0_4 l0_4.length c0_4) ∧ Sc0 w' ∧ Sc1 w') (ds := []) #[false, false, false, false, false, false, false, false, false, false, false, false, false, false, false, false, false, false, false, false, false] (by kernel_rfl) rfl rfl ⟨(blk_cell BK429.out 0).trans rfl, (blk_cell BK429.out 1).trans rfl, (blk_cell BK429.out 2).trans rfl, (blk_cell BK429.out 3).trans rfl, (blk_cell BK429.out 4).trans rfl, hSc0, hSc1⟩ (fun hHeld => ?_); refine with_tabW examboardlaw10_CodecEncodes.tab3 examboardlaw10_CodecEncodes.bits3 (fun HT_ HW_ => ?_)
 generalize w14.drew = w15 at HO432 HO436 BK429 HB hHeld ⊢
 refine pz 0 17 HT_.out ?_
 refine pz 1 18 HT_.out ?_
 refine pz 2 19 HT_.out ?_
 refine pz 3 20 HT_.out ?_
 refine pz 4 21 HT_.out ?_
 refine take_ (i := 5) (N := some 22) (v := ?_) (a' := ?_) #[true, true, true, true, true, true, false, false, false, false, false, false, false, false, false, false, false, false, false, false, false] rfl rfl (take_ofW HT_.out HW_.out (by kernel_rfl)) (fun _ _ _ h => h) (Or.inl ⟨by rfl, ?_⟩) hHeld ?_ ?_
 rotate_left
 ·
  rintro w' ⟨s0, s1, s2, s3, s4, sc0, sc1⟩
  go_simp
  first | (rw [(hSd0 w').1 sc0]; rfl) | (rw [(hSd1 w').1 sc1]; rfl)
 rotate_left
 ·
  simp only [Act.put, List.setIfInBounds_toArray, List.set_cons_zero, List.set_cons_succ, i64_w, i32_w]
  rfl
 refine pz 6 23 HT_.out ?_
 refine take_ (i := 7) (N := some 24) (v := ?_) (a' := ?_) #[true, true, true, true, true, true, true, true, false, false, false, false, false, false, false, false, false, false, false, false, false] rfl rfl (take_ofW HT_.out HW_.out (by kernel_rfl)) (fun _ _ _ h => h) (Or.inl ⟨by rfl, ?_⟩) hHeld ?_ ?_
 rotate_left
 ·
  rintro w' ⟨s0, s1, s2, s3, s4, sc0, sc1⟩
  go_simp
  first | (rw [(hSd0 w').1 sc0]; rfl) | (rw [(hSd1 w').1 sc1]; rfl)
 rotate_left
 ·
  simp only [Act.put, List.setIfInBounds_toArray, List.set_cons_zero, List.set_cons_succ, i64_w, i32_w]
  rfl
 refine pz 8 25 HT_.out ?_
 refine pz 9 26 HT_.out ?_
 refine pz 10 27 HT_.out ?_
 refine take_ (i := 11) (N := some 28) (v := ?_) (a' := ?_) #[true, true, true, true, true, true, true, true, true, true, true, true, false, false, false, false, false, false, false, false, false] rfl rfl (take_ofW HT_.out HW_.out (by kernel_rfl)) (fun _ _ _ h => h) (Or.inl ⟨by rfl, ?_⟩) hHeld ?_ ?_
 rotate_left
 ·
  rintro w' ⟨s0, s1, s2, s3, s4, sc0, sc1⟩
  go_simp
  with_reducible rfl
 rotate_left
 ·
  simp only [Act.put, List.setIfInBounds_toArray, List.set_cons_zero, List.set_cons_succ, i64_w, i32_w]
  rfl
 refine take_ (i := 13) (N := some 30) (v := ?_) (a' := ?_) #[true, true, true, true, true, true, true, true, true, true, true, true, false, true, false, false, false, false, false, false, false] rfl rfl (take_ofW HT_.out HW_.out (by kernel_rfl)) (fun _ _ _ h => h) (Or.inl ⟨by rfl, ?_⟩) hHeld ?_ ?_
 rotate_left
 ·
  rintro w' ⟨s0, s1, s2, s3, s4, sc0, sc1⟩
  go_simp
  with_reducible rfl
 rotate_left
 ·
  simp only [Act.put, List.setIfInBounds_toArray, List.set_cons_zero, List.set_cons_succ, i64_w, i32_w]
  rfl
 refine oz 12 29 HT_.out (fun K hK => ?_)
 refine goes_ Try.func10 (by kernel_rfl) rfl #[.agg #[.int .i64 a0_0, .int .i64 a0_1, .int .i64 a0_2, .string a0_3, .slice A0_4 l0_4.length c0_4]] (by rfl) rfl rfl lz ?_
 with_reducible refine (codec_Valid.calls k a0_0 a0_1 a0_2 a0_3 _ _ l0_4 t438 _ ?side1 ?side2 A6.out).mono ?_
 (case side1 => exact cz (Kd.C_below HR0_4.out HB.out))
 (case side2 => exact HC0_4.out)
 rintro e w19 ⟨rfl, hb⟩
 refine ⟨_, rfl, ?_⟩
 replace HO432 := am (Kd.R_below (rz HO432.out) hb)
 replace HO436 := am (Kd.R_below (rz HO436.out) hb)
 replace BK429 := am (blk_below (bz BK429.out) hb)
 replace HB := am (below_step (hz1 HB.out GE429.out) hb)
 (try clear hb)
 (try clear hb2)
 (try clear hk)
 (try clear hi)
 refine hK.out _ _ ⟨(blk_cell BK429.out 0).trans rfl, (blk_cell BK429.out 1).trans rfl, (blk_cell BK429.out 2).trans rfl, (blk_cell BK429.out 3).trans rfl, (blk_cell BK429.out 4).trans rfl, (hSd0 _).2 (own_string (P := Try.prog) Try.underlying25 Try.underlying5 Try.underlying9 (Kd.own_of_R HO432.out)), (hSd1 _).2 (own_string (P := Try.prog) Try.underlying25 Try.underlying5 Try.underlying9 (Kd.own_of_R HO436.out))⟩ (fun hHeld => ?_)
 clear hK K
 refine norm_ (a' := ?_) ?_ ?_
 rotate_left
 ·
  show Act.put _ (some 29) _ = _
  simp only [Act.put, List.setIfInBounds_toArray, List.set_cons_zero, List.set_cons_succ, i64_w, i32_w]
  rfl
 refine oz 14 31 HT_.out (fun K hK => ?_)
 refine goes_ Try.func11 (by kernel_rfl) rfl #[.agg #[.int .i64 a0_0, .int .i64 a0_1, .int .i64 a0_2, .string a0_3, .slice A0_4 l0_4.length c0_4]] (by rfl) rfl rfl lz ?_
 with_reducible refine (examboardref10_Valid.calls k a0_0 a0_1 a0_2 a0_3 _ _ l0_4 t439 _ ?side1 ?side2 A7.out).mono ?_
 (case side1 => exact cz (Kd.C_below HR0_4.out HB.out))
 (case side2 => exact HC0_4.out)
 rintro e w20 ⟨rfl, hb⟩
 refine ⟨_, rfl, ?_⟩
 replace HO432 := am (Kd.R_below (rz HO432.out) hb)
 replace HO436 := am (Kd.R_below (rz HO436.out) hb)
 replace BK429 := am (blk_below (bz BK429.out) hb)
 replace HB := am (below_step (hz1 HB.out GE429.out) hb)
 (try clear hb)
 (try clear hb2)
 (try clear hk)
 (try clear hi)
 refine hK.out _ _ ⟨(blk_cell BK429.out 0).trans rfl, (blk_cell BK429.out 1).trans rfl, (blk_cell BK429.out 2).trans rfl, (blk_cell BK429.out 3).trans rfl, (blk_cell BK429.out 4).trans rfl, (hSd0 _).2 (own_string (P := Try.prog) Try.underlying25 Try.underlying5 Try.underlying9 (Kd.own_of_R HO432.out)), (hSd1 _).2 (own_string (P := Try.prog) Try.underlying25 Try.underlying5 Try.underlying9 (Kd.own_of_R HO436.out))⟩ (fun hHeld => ?_)
 clear hK K
 refine norm_ (a' := ?_) ?_ ?_
 rotate_left
 ·
  show Act.put _ (some 31) _ = _
  simp only [Act.put, List.setIfInBounds_toArray, List.set_cons_zero, List.set_cons_succ, i64_w, i32_w]
  rfl
 refine pz 15 32 HT_.out ?_
 refine pz 16 33 HT_.out ?_
 refine pz 17 34 HT_.out ?_
 refine oz 18 35 HT_.out (fun K hK => ?_)
 refine goes_ Try.func12 (by kernel_rfl) rfl #[] (by rfl) rfl rfl lz ?_
 with_reducible refine (examboardlaw10_awake.calls k  t440 _ A9.out).mono ?_
 rintro e w21 ⟨rfl, hb⟩
 refine ⟨_, rfl, ?_⟩
 replace HO432 := am (Kd.R_below (rz HO432.out) hb)
 replace HO436 := am (Kd.R_below (rz HO436.out) hb)
 replace BK429 := am (blk_below (bz BK429.out) hb)
 replace HB := am (below_step (hz1 HB.out GE429.out) hb)
 (try clear hb)
 (try clear hb2)
 (try clear hk)
 (try clear hi)
 refine hK.out _ _ ⟨(blk_cell BK429.out 0).trans rfl, (blk_cell BK429.out 1).trans rfl, (blk_cell BK429.out 2).trans rfl, (blk_cell BK429.out 3).trans rfl, (blk_cell BK429.out 4).trans rfl, (hSd0 _).2 (own_string (P := Try.prog) Try.underlying25 Try.underlying5 Try.underlying9 (Kd.own_of_R HO432.out)), (hSd1 _).2 (own_string (P := Try.prog) Try.underlying25 Try.underlying5 Try.underlying9 (Kd.own_of_R HO436.out))⟩ (fun hHeld => ?_)
 clear hK K
 refine norm_ (a' := ?_) ?_ ?_
 rotate_left
 ·
  show Act.put _ (some 35) _ = _
  simp only [Act.put, List.setIfInBounds_toArray, List.set_cons_zero, List.set_cons_succ, i64_w, i32_w]
  rfl
 refine pz 19 36 HT_.out ?_
 refine pz 20 2 HT_.out ?_
 refine done_ (done_of HT_.out (by kernel_rfl)) ?_
 try go_wp2
 go_ret
 exact ⟨ez, hz1 HB.out GE429.out⟩

end Go.Proofs.Ytipjfhakcceebaa.Q
