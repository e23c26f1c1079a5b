/- Made by wip/myprint.py of this session (it drives the kit's printer): what the calls of the Go functions come to, as plain Lean functions, and the row of a law over them; without conditions. -/
import Derived.Test.YtipjfhakcceebaaQx0
import Derived.Test.YtipjfhakcceebaaQx5
import Derived.Test.YtipjfhakcceebaaQx7
import Derived.Test.YtipjfhakcceebaaQx10
namespace Go.Proofs.Ytipjfhakcceebaa.Q
open Go.RowKit Go.Proofs.YtipjfhakcceebaaW.PrintWords Go.Proofs.YtipjfhakcceebaaW.PrintLast Go.Proofs.YtipjfhakcceebaaW.PrintMore
attribute [local go_sem] max2_int min2_int max_two min_two max_three min_three max_four min_four   -- for this text's walks alone
set_option linter.unusedVariables false
set_option linter.unusedSimpArgs false

/-! ### examboardlaw10_CodecCanonical: function 5 -/
def examboardlaw10_CodecCanonical.f (k : Nat) (l0 : List Int) : Option (Bool) := (codec_Decode.f k l0).bind fun bt470 => (if bt470.2.2.2.2.2.2 = 0 then (if bt470.2.2.2.2.2.1 < 1 then (none) else (if bt470.2.2.2.2.2.1 > (l0.length : Int) then (none) else ((codec_Valid.f k bt470.1 bt470.2.1 bt470.2.2.1 bt470.2.2.2.1 bt470.2.2.2.2.1).bind fun t481 => (if t481 = true then ((codec_Encode.f k bt470.1 bt470.2.1 bt470.2.2.1 bt470.2.2.2.1 bt470.2.2.2.2.1).bind fun bt482 => (if bt482.2 = 0 then (if 0 ≤ bt470.2.2.2.2.2.1 then (if bt470.2.2.2.2.2.1 ≤ (l0.length : Int) then (if (strOfNums bt482.1).toList = (strOfNums (l0.take (bt470.2.2.2.2.2.1 : Int).toNat)).toList then ((examboardlaw10_awake.f k).bind fun t487 => (some t487)) else (none)) else (none)) else (none)) else (none))) else (none))))) else (if bt470.2.2.2.2.2.1 = 0 then ((examboardlaw10_awake.f k).bind fun t480 => (some t480)) else (none)))
theorem examboardlaw10_CodecCanonical.mono : ∀ a0 k, LeO (examboardlaw10_CodecCanonical.f k a0) (examboardlaw10_CodecCanonical.f (k + 1) a0) := by
 intro a0 k
 unfold examboardlaw10_CodecCanonical.f
 repeat' first
   | (with_reducible exact codec_Decode.mono _ _)
   | (with_reducible exact codec_Encode.mono _ _ _ _ _ _)
   | (with_reducible exact codec_Valid.mono _ _ _ _ _ _)
   | (with_reducible exact examboardlaw10_awake.mono _)
   | (with_reducible exact LeO.refl _)
   | (with_reducible exact LeO.none _)
   | (with_reducible refine LeO.ite ?_ ?_)
   | (with_reducible refine LeO.bind ?_ (fun _ => ?_))
   | exact codec_Decode.mono _ _
   | exact codec_Encode.mono _ _ _ _ _ _
   | exact codec_Valid.mono _ _ _ _ _ _
   | exact examboardlaw10_awake.mono _
   | exact LeO.none _
   | refine LeO.ite ?_ ?_
   | refine LeO.bind ?_ (fun _ => ?_)
def examboardlaw10_CodecCanonical.T7 : Bool × List (List Nat × List Nat) := (true, [([], []), ([0], [0]), ([1], [1]), ([2], [2]), ([3, 2], [2, 3]), ([2], [2]), ([2], [2]), ([5, 6, 2], [2, 5, 6]), ([7, 2], [2, 7]), ([4, 8, 2], [2, 4, 8]), ([2, 9], [2, 9]), ([10, 2], [10]), ([11, 11], [11]), ([11, 12], [11, 12]), ([13, 12, 0, 1, 2, 3, 4, 5, 6, 7, 8, 9, 10, 11, 12, 13], [13])])
def examboardlaw10_CodecCanonical.B7 : List Nat := [0, 1, 3, 7, 15, 7, 7, 103, 231, 511, 1023, 2047, 4095, 8191, 16383]
theorem examboardlaw10_CodecCanonical.tab7 : rtab .any (opsOf Try.f5 7) = examboardlaw10_CodecCanonical.T7 := by kernel_rfl
theorem examboardlaw10_CodecCanonical.bits7 : waitsOk examboardlaw10_CodecCanonical.T7.2 examboardlaw10_CodecCanonical.B7 = true := by kernel_rfl
theorem examboardlaw10_CodecCanonical.conv {P : Program} {src dst : TypeId} {v : Value} {s : ByteArray} {w : World} (h : (convert src dst v).run P w = .ok (.string s) w) : ∃ S : World → Prop, S w ∧ ∀ w', S w' ↔ (convert src dst v).run P w' = .ok (.string s) w' := ⟨fun w' => (convert src dst v).run P w' = .ok (.string s) w', h, fun _ => Iff.rfl⟩
set_option maxHeartbeats 8000000 in
set_option maxRecDepth 100000 in
theorem examboardlaw10_CodecCanonical.calls (k : Nat) (A0 : Option Addr) (c0 : Nat) (l0 : List Int) (r : Bool) (w : World) (hr0 : Kd.C (Kd.int .u8) w A0 l0.length l0) (hc0 : l0.length ≤ c0) (h : examboardlaw10_CodecCanonical.f k l0 = some r) :
  Calls Try.prog 5 #[.slice A0 l0.length c0] w fun e w' => e = .returned (.bool r) ∧ Below w.heap.size w w' := by
 have hu24 := Try.underlying24
 have HR0 := am hr0
 have HC0 := am hc0
 clear hr0 hc0
 have HB := am (Below.refl w.heap.size w)
 have H : ((codec_Decode.f k l0).bind fun bt470 => (if bt470.2.2.2.2.2.2 = 0 then (if bt470.2.2.2.2.2.1 < 1 then (none) else (if bt470.2.2.2.2.2.1 > (l0.length : Int) then (none) else ((codec_Valid.f k bt470.1 bt470.2.1 bt470.2.2.1 bt470.2.2.2.1 bt470.2.2.2.2.1).bind fun t481 => (if t481 = true then ((codec_Encode.f k bt470.1 bt470.2.1 bt470.2.2.1 bt470.2.2.2.1 bt470.2.2.2.2.1).bind fun bt482 => (if bt482.2 = 0 then (if 0 ≤ bt470.2.2.2.2.2.1 then (if bt470.2.2.2.2.2.1 ≤ (l0.length : Int) then (if (strOfNums bt482.1).toList = (strOfNums (l0.take (bt470.2.2.2.2.2.1 : Int).toNat)).toList then ((examboardlaw10_awake.f k).bind fun t487 => (some t487)) else (none)) else (none)) else (none)) else (none))) else (none))))) else (if bt470.2.2.2.2.2.1 = 0 then ((examboardlaw10_awake.f k).bind fun t480 => (some t480)) else (none)))) = some r := h
 clear h
 replace H := Option.bind_eq_some_iff.mp H
 obtain ⟨⟨t470, t471, t472, t473, t474, t477, t478⟩, A20, H⟩ := H
 replace H : (if t478 = 0 then (if t477 < 1 then (none) else (if t477 > (l0.length : Int) then (none) else ((codec_Valid.f k t470 t471 t472 t473 t474).bind fun t481 => (if t481 = true then ((codec_Encode.f k t470 t471 t472 t473 t474).bind fun bt482 => (if bt482.2 = 0 then (if 0 ≤ t477 then (if t477 ≤ (l0.length : Int) then (if (strOfNums bt482.1).toList = (strOfNums (l0.take (t477 : Int).toNat)).toList then ((examboardlaw10_awake.f k).bind fun t487 => (some t487)) else (none)) else (none)) else (none)) else (none))) else (none))))) else (if t477 = 0 then ((examboardlaw10_awake.f k).bind fun t480 => (some t480)) else (none))) = some r := H
 have A2 := am A20
 clear A20
 by_cases c3 : t478 = 0
 ·
  rw [if_pos c3] at H
  have c3b0 : (t478 == 0) = true := beq_iff_eq.mpr c3
  have c3b1 : (t478 != 0) = false := bne_eq_false_iff_eq.mpr c3
  clear c3
  replace H := ie_ H
  obtain ⟨c4, H⟩ := H
  have c4b0 : decide (t477 < 1) = false := decide_eq_false c4
  clear c4
  replace H := ie_ H
  obtain ⟨c5, H⟩ := H
  have c5b0 : decide ((l0.length : Int) < t477) = false := decide_eq_false c5
  clear c5
  replace H := Option.bind_eq_some_iff.mp H
  obtain ⟨t481, A60, H⟩ := H
  replace H : (if t481 = true then ((codec_Encode.f k t470 t471 t472 t473 t474).bind fun bt482 => (if bt482.2 = 0 then (if 0 ≤ t477 then (if t477 ≤ (l0.length : Int) then (if (strOfNums bt482.1).toList = (strOfNums (l0.take (t477 : Int).toNat)).toList then ((examboardlaw10_awake.f k).bind fun t487 => (some t487)) else (none)) else (none)) else (none)) else (none))) else (none)) = some r := H
  have A6 := am A60
  clear A60
  by_cases c7 : t481 = true
  ·
   subst c7
   have H1 : ((codec_Encode.f k t470 t471 t472 t473 t474).bind fun bt482 => (if bt482.2 = 0 then (if 0 ≤ t477 then (if t477 ≤ (l0.length : Int) then (if (strOfNums bt482.1).toList = (strOfNums (l0.take (t477 : Int).toNat)).toList then ((examboardlaw10_awake.f k).bind fun t487 => (some t487)) else (none)) else (none)) else (none)) else (none))) = some r := by rw [if_pos rfl] at H; exact H
   clear H
   have H := H1
   clear H1
   replace H := Option.bind_eq_some_iff.mp H
   obtain ⟨⟨t482, t485⟩, A80, H⟩ := H
   replace H : (if t485 = 0 then (if 0 ≤ t477 then (if t477 ≤ (l0.length : Int) then (if (strOfNums t482).toList = (strOfNums (l0.take (t477 : Int).toNat)).toList then ((examboardlaw10_awake.f k).bind fun t487 => (some t487)) else (none)) else (none)) else (none)) else (none)) = some r := H
   have A8 := am A80
   clear A80
   replace H := it_ H
   obtain ⟨c9, H⟩ := H
   have c9b0 : (t485 == 0) = true := beq_iff_eq.mpr c9
   have c9b1 : (t485 != 0) = false := bne_eq_false_iff_eq.mpr c9
   clear c9
   replace H := it_ H
   obtain ⟨c10, H⟩ := H
   have c10b0 := eq_true c10
   have c10b1 : decide (0 ≤ t477) = true := decide_eq_true c10
   clear c10
   replace H := it_ H
   obtain ⟨c11, H⟩ := H
   have c11b0 := eq_true c11
   have c11b1 : decide (t477 ≤ (l0.length : Int)) = true := decide_eq_true c11
   clear c11
   replace H := it_ H
   obtain ⟨c12, H⟩ := H
   have c12b0 : ((strOfNums t482).toList == (strOfNums (l0.take (t477 : Int).toNat)).toList) = true := beq_iff_eq.mpr c12
   have c12b1 : ((strOfNums t482).toList != (strOfNums (l0.take (t477 : Int).toNat)).toList) = false := bne_eq_false_iff_eq.mpr c12
   clear c12
   replace H := Option.bind_eq_some_iff.mp H
   obtain ⟨t487, A130, H⟩ := H
   replace H : (some t487) = some r := H
   have A13 := am A130
   clear A130
   obtain rfl := Option.some.inj H
   go_enter Try.func5, Try.ntmps5
   try go_wp2_with (first | ((with_reducible refine gate_callee (f := 13) rfl ?_); refine goesL_ (some 9) rfl rfl Try.func13 (by kernel_rfl) rfl #[.slice A0 l0.length c0] rfl lz ?_; (with_reducible refine (codec_Decode.calls k _ _ l0 t470 t471 t472 t473 t474 t477 t478 _ ?side1 ?side2 A2.out).mono ?_); (case side1 => repeat (first | exact HR0.out | (with_reducible refine Kd.C_alloc ?_ _) | (with_reducible refine Kd.C_drewN ?_ _) | (with_reducible refine Kd.C_drew ?_))); (case side2 => exact HC0.out); rintro e w14 ⟨v475, rfl, ho0, hb⟩; refine ⟨_, rfl, ?_⟩; have HO476 := am (Kd.R_lower ho0 (below_size (hz HB.out))); replace HB := am (below_step (hz HB.out) hb); (try clear hb); (try clear hb2); (try clear hk); (try clear hi); (try clear ho0)) | ((with_reducible refine gate_dst (N := 3) rfl ?_); (try (refine gate_guard (by rfl) ?_; dsimp only)); refine box_event ?hg (N := 3) ?hd (cs := #[.int .i64 0, .int .i64 0, .int .i64 0, .string (⟨#[]⟩ : ByteArray), .slice none 0 0]) (t := 24) ?hr ?_; (case hd => rfl); (case hg => rfl); (case hr => exact gz); intro gb479 hg w15 hbox hb; replace HO476 := am (Kd.R_below (Kd.R_elderB (rz HO476.out) gb479 (Nat.le_of_eq hg.symm)) hb); have BK479 := am (hbox); have GW479 := am ((bs hg (hz HB.out) : w.heap.size ≤ gb479)); have GE479 := am ((bs hg (hz HB.out) : w.heap.size ≤ gb479)); replace HB := am (below_step (hz HB.out) hb); clear hb hbox hg; obtain ⟨hcz16_0, hcz16_1, hcz16_2, hcz16_3, hcz16_4⟩ := cs5 BK479.out; obtain ⟨hfz16_0, hfz16_1, hfz16_2, hfz16_3, hfz16_4⟩ := fs5 BK479.out; obtain ⟨Ao17, co17, eo17⟩ := Kd.R_slice HO476.out; subst eo17) | (go_at_call 10; (with_reducible refine (codec_Valid.calls k t470 t471 t472 t473 _ _ t474 true _ ?side1 ?side2 A6.out).mono ?_); (case side1 => refine (Kd.R_reads' (e := 24) (base := w.heap.size) (ok := fun k_ => (True ∧ k_ ≠ gb479)) (n := t474.length) (c := co17) ?_).2.2; exact (rz (Kd.R_mono (Kd.R_far (p := ⟨gb479, 4, none⟩) (Kd.R_far (p := ⟨gb479, 3, none⟩) (Kd.R_far (p := ⟨gb479, 2, none⟩) (Kd.R_far (p := ⟨gb479, 1, none⟩) (Kd.R_far (p := ⟨gb479, 0, none⟩) (Kd.R_mono HO476.out (fun k_ hk => (⟨hk, hk.2⟩ : _ ∧ k_ ≠ gb479))) (fun _ hk => hk.2) (.int .i64 t470)) (fun _ hk => hk.2) (.int .i64 t471)) (fun _ hk => hk.2) (.int .i64 t472)) (fun _ hk => hk.2) (.string t473)) (fun _ hk => hk.2) (.slice Ao17 t474.length co17)) (fun _ h_ => h_.1)))); (case side2 => exact (Kd.R_reads' HO476.out).2.1); rintro e w18 ⟨rfl, hb⟩; replace HO476 := am (Kd.R_below (rz (Kd.R_mono (Kd.R_far (p := ⟨gb479, 4, none⟩) (Kd.R_far (p := ⟨gb479, 3, none⟩) (Kd.R_far (p := ⟨gb479, 2, none⟩) (Kd.R_far (p := ⟨gb479, 1, none⟩) (Kd.R_far (p := ⟨gb479, 0, none⟩) (Kd.R_mono HO476.out (fun k_ hk => (⟨hk, hk.2⟩ : _ ∧ k_ ≠ gb479))) (fun _ hk => hk.2) (.int .i64 t470)) (fun _ hk => hk.2) (.int .i64 t471)) (fun _ hk => hk.2) (.int .i64 t472)) (fun _ hk => hk.2) (.string t473)) (fun _ hk => hk.2) (.slice Ao17 t474.length co17)) (fun _ h_ => h_.1))) hb); replace BK479 := am (blk_below (g := gb479) (o := .cells #[.int .i64 t470, .int .i64 t471, .int .i64 t472, .string t473, .slice Ao17 t474.length co17] 24 (0, 0)) (by (with_reducible repeat (first | refine blk_drewN ?_ _ | refine blk_drew ?_ | refine blk_alloc ?_ _)); refine blk_put (cs := #[.int .i64 t470, .int .i64 t471, .int .i64 t472, .string t473, .slice none 0 0]) ?_ 4 _ rfl; (with_reducible repeat (first | refine blk_drewN ?_ _ | refine blk_drew ?_ | refine blk_alloc ?_ _)); refine blk_put (cs := #[.int .i64 t470, .int .i64 t471, .int .i64 t472, .string (⟨#[]⟩ : ByteArray), .slice none 0 0]) ?_ 3 _ rfl; (with_reducible repeat (first | refine blk_drewN ?_ _ | refine blk_drew ?_ | refine blk_alloc ?_ _)); refine blk_put (cs := #[.int .i64 t470, .int .i64 t471, .int .i64 0, .string (⟨#[]⟩ : ByteArray), .slice none 0 0]) ?_ 2 _ rfl; (with_reducible repeat (first | refine blk_drewN ?_ _ | refine blk_drew ?_ | refine blk_alloc ?_ _)); refine blk_put (cs := #[.int .i64 t470, .int .i64 0, .int .i64 0, .string (⟨#[]⟩ : ByteArray), .slice none 0 0]) ?_ 1 _ rfl; (with_reducible repeat (first | refine blk_drewN ?_ _ | refine blk_drew ?_ | refine blk_alloc ?_ _)); refine blk_put (cs := #[.int .i64 0, .int .i64 0, .int .i64 0, .string (⟨#[]⟩ : ByteArray), .slice none 0 0]) ?_ 0 _ rfl; (with_reducible repeat (first | refine blk_drewN ?_ _ | refine blk_drew ?_ | refine blk_alloc ?_ _)); exact BK479.out) hb); replace HB := am (below_step (hz1 HB.out GE479.out) hb); (try clear hb); (try clear hb2); (try clear hk); (try clear hi); obtain ⟨hcz19_0, hcz19_1, hcz19_2, hcz19_3, hcz19_4⟩ := cs5 BK479.out; obtain ⟨hfz19_0, hfz19_1, hfz19_2, hfz19_3, hfz19_4⟩ := fs5 BK479.out) | ((with_reducible refine gate_callee (f := 8) rfl ?_); refine goesL_ (some 35) rfl rfl Try.func8 (by kernel_rfl) rfl #[.agg #[.int .i64 t470, .int .i64 t471, .int .i64 t472, .string t473, .slice Ao17 t474.length co17]] rfl lz ?_; (with_reducible refine (codec_Encode.calls k t470 t471 t472 t473 _ _ t474 t482 t485 _ ?side1 ?side2 A8.out).mono ?_); (case side1 => repeat (first | exact (Kd.R_reads' HO476.out).2.2 | (with_reducible refine Kd.C_alloc ?_ _) | (with_reducible refine Kd.C_drewN ?_ _) | (with_reducible refine Kd.C_drew ?_))); (case side2 => exact (Kd.R_reads' HO476.out).2.1); rintro e w20 ⟨v483, rfl, ho0, hb⟩; refine ⟨_, rfl, ?_⟩; replace HO476 := am (Kd.R_below (rz HO476.out) hb); have HO484 := am (Kd.R_lower ho0 (below_size (hz1 HB.out GE479.out))); replace BK479 := am (blk_below (bz BK479.out) hb); replace HB := am (below_step (hz1 HB.out GE479.out) hb); (try clear hb); (try clear hb2); (try clear hk); (try clear hi); (try clear ho0)))
   replace HO476 := am (Kd.R_drew HO476.out)
   replace HO484 := am (Kd.R_drew HO484.out)
   replace BK479 := am (blk_drew BK479.out)
   replace HB := am (below_drew1 HB.out)
   obtain ⟨i022, hi022, _, hsz22, _⟩ := info_parts info5
   obtain ⟨hcut22, hA22, hC22⟩ := print_take_of (P := Try.prog) (Value.int .u8) 0 25 5 .i64 Try.underlying25 hi022 hsz22 A0 c0 l0 t477 (of_decide_eq_true az) (of_decide_eq_true az) HC0.out
   have HR486 := am (Kd.C_of_reads (h1 := fun _ => rfl) (hA22 _ (Kd.reads_of_C HR0.out)))
   have HC486 := am hC22
   clear hA22 hC22 hi022 hsz22
   have hcv23 := own_string (P := Try.prog) Try.underlying25 Try.underlying5 Try.underlying9 (Kd.own_of_R HO484.out)
   have hcv24 := Kd.C_string (P := Try.prog) (A := A0) (c := c0) Try.underlying25 Try.underlying5 Try.underlying9 (Kd.C_below HR486.out HB.out)
   have hlt_ : t477.toNat ≤ l0.length := by have := (of_decide_eq_true (by first | (with_reducible assumption) | assumption) : t477 ≤ (l0.length : Int)); omega
   rw [List.length_take, Nat.min_eq_left hlt_] at hcv24
   obtain ⟨Sc0, hSc0, hSd0⟩ := examboardlaw10_CodecCanonical.conv hcv23
   obtain ⟨Sc1, hSc1, hSd1⟩ := examboardlaw10_CodecCanonical.conv hcv24
   refine start_ (n := 15) (S := fun w' => Sc0 w' ∧ Sc1 w') (ds := []) #[false, false, false, false, false, false, false, false, false, false, false, false, false, false, false] (by kernel_rfl) rfl rfl ⟨hSc0, hSc1⟩ (fun hHeld => ?_); refine with_tabW examboardlaw10_CodecCanonical.tab7 examboardlaw10_CodecCanonical.bits7 (fun HT_ HW_ => ?_)
   generalize w20.drew = w21 at HO476 HO484 BK479 HB HR486 hHeld ⊢
   refine pz 0 38 HT_.out ?_
   refine pz 1 39 HT_.out ?_
   refine pz 2 40 HT_.out ?_
   refine pz 3 41 HT_.out ?_
   refine take_ (i := 4) (N := some 42) (v := ?_) (a' := ?_) #[true, true, true, true, true, false, false, false, false, false, false, false, false, false, false] rfl rfl (take_ofW HT_.out HW_.out (by kernel_rfl)) (fun _ _ _ h => h) (Or.inl ⟨by rfl, ?_⟩) hHeld ?_ ?_
   rotate_left
   ·
    rintro w' ⟨sc0, sc1⟩
    go_simp
    first | (rw [(hSd0 w').1 sc0]; rfl) | (rw [(hSd1 w').1 sc1]; rfl)
   rotate_left
   ·
    simp only [Act.put, List.setIfInBounds_toArray, List.set_cons_zero, List.set_cons_succ, i64_w, i32_w]
    rfl
   refine pz 5 43 HT_.out ?_
   refine pz 6 44 HT_.out ?_
   refine pz 7 45 HT_.out ?_
   refine take_ (i := 8) (N := some 46) (v := ?_) (a' := ?_) #[true, true, true, true, true, true, true, true, true, false, false, false, false, false, false] rfl rfl (take_ofW HT_.out HW_.out (by kernel_rfl)) (fun _ _ _ h => h) (Or.inl ⟨by rfl, ?_⟩) hHeld ?_ ?_
   rotate_left
   ·
    rintro w' ⟨sc0, sc1⟩
    go_simp
    first | (rw [(hSd0 w').1 sc0]; rfl) | (rw [(hSd1 w').1 sc1]; rfl)
   rotate_left
   ·
    simp only [Act.put, List.setIfInBounds_toArray, List.set_cons_zero, List.set_cons_succ, i64_w, i32_w]
    rfl
   refine pz 9 47 HT_.out ?_
   refine pz 10 48 HT_.out ?_
   refine pz 11 49 HT_.out ?_
   refine oz 12 50 HT_.out (fun K hK => ?_)
   refine goes_ Try.func12 (by kernel_rfl) rfl #[] (by rfl) rfl rfl lz ?_
   with_reducible refine (examboardlaw10_awake.calls k  t487 _ A13.out).mono ?_
   rintro e w26 ⟨rfl, hb⟩
   refine ⟨_, rfl, ?_⟩
   replace HO476 := am (Kd.R_below (rz HO476.out) hb)
   replace HO484 := am (Kd.R_below (rz HO484.out) hb)
   replace BK479 := am (blk_below (bz BK479.out) hb)
   replace HB := am (below_step (hz1 HB.out GE479.out) hb)
   (try clear hb)
   (try clear hb2)
   (try clear hk)
   (try clear hi)
   refine hK.out _ _ ⟨(hSd0 _).2 (own_string (P := Try.prog) Try.underlying25 Try.underlying5 Try.underlying9 (Kd.own_of_R HO484.out)), (hSd1 _).2 (by have e_ := Kd.C_string (P := Try.prog) (A := A0) (c := c0) Try.underlying25 Try.underlying5 Try.underlying9 (Kd.C_below HR486.out HB.out); rw [List.length_take, Nat.min_eq_left hlt_] at e_; exact e_)⟩ (fun hHeld => ?_)
   clear hK K
   refine norm_ (a' := ?_) ?_ ?_
   rotate_left
   ·
    show Act.put _ (some 50) _ = _
    simp only [Act.put, List.setIfInBounds_toArray, List.set_cons_zero, List.set_cons_succ, i64_w, i32_w]
    rfl
   refine pz 13 51 HT_.out ?_
   refine pz 14 2 HT_.out ?_
   refine done_ (done_of HT_.out (by kernel_rfl)) ?_
   try go_wp2
   go_ret
   exact ⟨ez, hz1 HB.out GE479.out⟩
  ·
   replace c7 := Bool.eq_false_iff.mpr c7
   subst c7
   have H1 : (none) = some r := by rw [if_neg (show ¬ (false = true) by decide)] at H; exact H
   clear H
   have H := H1
   clear H1
   exact absurd H (by simp)
 ·
  rw [if_neg c3] at H
  have c3b0 : (t478 == 0) = false := beq_eq_false_iff_ne.mpr c3
  have c3b1 : (t478 != 0) = true := bne_iff_ne.mpr c3
  replace H := it_ H
  obtain ⟨c27, H⟩ := H
  have c27b0 : (t477 == 0) = true := beq_iff_eq.mpr c27
  have c27b1 : (t477 != 0) = false := bne_eq_false_iff_eq.mpr c27
  clear c27
  replace H := Option.bind_eq_some_iff.mp H
  obtain ⟨t480, A280, H⟩ := H
  replace H : (some t480) = some r := H
  have A28 := am A280
  clear A280
  obtain rfl := Option.some.inj H
  go_enter Try.func5, Try.ntmps5
  go_wp2_with (first | ((with_reducible refine gate_callee (f := 13) rfl ?_); refine goesL_ (some 9) rfl rfl Try.func13 (by kernel_rfl) rfl #[.slice A0 l0.length c0] rfl lz ?_; (with_reducible refine (codec_Decode.calls k _ _ l0 t470 t471 t472 t473 t474 t477 t478 _ ?side1 ?side2 A2.out).mono ?_); (case side1 => repeat (first | exact HR0.out | (with_reducible refine Kd.C_alloc ?_ _) | (with_reducible refine Kd.C_drewN ?_ _) | (with_reducible refine Kd.C_drew ?_))); (case side2 => exact HC0.out); rintro e w29 ⟨v475, rfl, ho0, hb⟩; refine ⟨_, rfl, ?_⟩; have HO476 := am (Kd.R_lower ho0 (below_size (hz HB.out))); replace HB := am (below_step (hz HB.out) hb); (try clear hb); (try clear hb2); (try clear hk); (try clear hi); (try clear ho0)) | ((with_reducible refine gate_dst (N := 3) rfl ?_); (try (refine gate_guard (by rfl) ?_; dsimp only)); refine box_event ?hg (N := 3) ?hd (cs := #[.int .i64 0, .int .i64 0, .int .i64 0, .string (⟨#[]⟩ : ByteArray), .slice none 0 0]) (t := 24) ?hr ?_; (case hd => rfl); (case hg => rfl); (case hr => exact gz); intro gb479 hg w30 hbox hb; replace HO476 := am (Kd.R_below (Kd.R_elderB (rz HO476.out) gb479 (Nat.le_of_eq hg.symm)) hb); have BK479 := am (hbox); have GW479 := am ((bs hg (hz HB.out) : w.heap.size ≤ gb479)); have GE479 := am ((bs hg (hz HB.out) : w.heap.size ≤ gb479)); replace HB := am (below_step (hz HB.out) hb); clear hb hbox hg; obtain ⟨hcz31_0, hcz31_1, hcz31_2, hcz31_3, hcz31_4⟩ := cs5 BK479.out; obtain ⟨hfz31_0, hfz31_1, hfz31_2, hfz31_3, hfz31_4⟩ := fs5 BK479.out; obtain ⟨Ao32, co32, eo32⟩ := Kd.R_slice HO476.out; subst eo32) | (go_at_call 12; (with_reducible refine (examboardlaw10_awake.calls k  t480 _ A28.out).mono ?_); rintro e w33 ⟨rfl, hb⟩; replace HO476 := am (Kd.R_below (rz (Kd.R_mono (Kd.R_far (p := ⟨gb479, 4, none⟩) (Kd.R_far (p := ⟨gb479, 3, none⟩) (Kd.R_far (p := ⟨gb479, 2, none⟩) (Kd.R_far (p := ⟨gb479, 1, none⟩) (Kd.R_far (p := ⟨gb479, 0, none⟩) (Kd.R_mono HO476.out (fun k_ hk => (⟨hk, hk.2⟩ : _ ∧ k_ ≠ gb479))) (fun _ hk => hk.2) (.int .i64 t470)) (fun _ hk => hk.2) (.int .i64 t471)) (fun _ hk => hk.2) (.int .i64 t472)) (fun _ hk => hk.2) (.string t473)) (fun _ hk => hk.2) (.slice Ao32 t474.length co32)) (fun _ h_ => h_.1))) hb); replace BK479 := am (blk_below (g := gb479) (o := .cells #[.int .i64 t470, .int .i64 t471, .int .i64 t472, .string t473, .slice Ao32 t474.length co32] 24 (0, 0)) (by (with_reducible repeat (first | refine blk_drewN ?_ _ | refine blk_drew ?_ | refine blk_alloc ?_ _)); refine blk_put (cs := #[.int .i64 t470, .int .i64 t471, .int .i64 t472, .string t473, .slice none 0 0]) ?_ 4 _ rfl; (with_reducible repeat (first | refine blk_drewN ?_ _ | refine blk_drew ?_ | refine blk_alloc ?_ _)); refine blk_put (cs := #[.int .i64 t470, .int .i64 t471, .int .i64 t472, .string (⟨#[]⟩ : ByteArray), .slice none 0 0]) ?_ 3 _ rfl; (with_reducible repeat (first | refine blk_drewN ?_ _ | refine blk_drew ?_ | refine blk_alloc ?_ _)); refine blk_put (cs := #[.int .i64 t470, .int .i64 t471, .int .i64 0, .string (⟨#[]⟩ : ByteArray), .slice none 0 0]) ?_ 2 _ rfl; (with_reducible repeat (first | refine blk_drewN ?_ _ | refine blk_drew ?_ | refine blk_alloc ?_ _)); refine blk_put (cs := #[.int .i64 t470, .int .i64 0, .int .i64 0, .string (⟨#[]⟩ : ByteArray), .slice none 0 0]) ?_ 1 _ rfl; (with_reducible repeat (first | refine blk_drewN ?_ _ | refine blk_drew ?_ | refine blk_alloc ?_ _)); refine blk_put (cs := #[.int .i64 0, .int .i64 0, .int .i64 0, .string (⟨#[]⟩ : ByteArray), .slice none 0 0]) ?_ 0 _ rfl; (with_reducible repeat (first | refine blk_drewN ?_ _ | refine blk_drew ?_ | refine blk_alloc ?_ _)); exact BK479.out) hb); replace HB := am (below_step (hz1 HB.out GE479.out) hb); (try clear hb); (try clear hb2); (try clear hk); (try clear hi)))
  go_ret
  exact ⟨ez, hz1 HB.out GE479.out⟩

/-- THE ONE PURE STATEMENT of examboardlaw10_CodecCanonical: yours. -/
def examboardlaw10_CodecCanonical.Pure : Prop := ∀ (l0 : List Int), l0.length ≤ maxLen → l0.length * 1 ≤ 140737488351232 → (∀ x ∈ l0, (Lit.int .u8 x).wf = true) → ∃ k, examboardlaw10_CodecCanonical.f k l0 = some true
theorem examboardlaw10_CodecCanonical.walk (P : examboardlaw10_CodecCanonical.Pure) (a0 : Option Addr) (len0 cap0 : Nat) (z0 : List Int) (w : World) (w0 : (a0 = none ∧ len0 = 0 ∧ cap0 = 0 ∧ z0 = []) ∨ ∃ x, a0 = some x ∧ len0 ≤ cap0 ∧ cap0 ≤ maxLen ∧ z0.length = cap0 ∧ (∀ i, i < z0.length → w.cell? (x.add i) = some (.int .u8 (z0.getD i 0))) ∧ ∀ n ∈ z0, (Lit.int .u8 n).wf = true) (y0 : len0 * 1 ≤ 140737488351232) :
  Calls Try.prog 5 #[.slice a0 len0 cap0] w fun e w' => e = .returned (.bool true) ∧ Below w.heap.size w w' := by
 obtain ⟨l0, rfl, hr0, hm0, hw0, hc0⟩ := ReadsInt.ofRowC w0
 obtain ⟨k, h⟩ := P l0 hm0 y0 hw0
 refine (examboardlaw10_CodecCanonical.calls k _ _ l0 true w (Kd.C_of_reads (d := (0 : Int)) (h1 := fun _ => rfl) hr0) hc0 h).mono ?_
 rintro e w' ⟨rfl, hd⟩
 exact ⟨rfl, hd⟩

end Go.Proofs.Ytipjfhakcceebaa.Q
