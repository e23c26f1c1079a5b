/- Made by wip/myprint.py of this session (it drives the kit's printer): what the calls of the Go functions come to, as plain Lean functions, and the row of a law over them; without conditions. -/
import Derived.Test.YtipjfhakcceebaaQx0
import Derived.Test.YtipjfhakcceebaaQx5
import Derived.Test.YtipjfhakcceebaaQx8
import Derived.Test.YtipjfhakcceebaaQx10
namespace Go.Proofs.Ytipjfhakcceebaa.Q
open Go.RowKit Go.Proofs.YtipjfhakcceebaaW.PrintWords Go.Proofs.YtipjfhakcceebaaW.PrintLast Go.Proofs.YtipjfhakcceebaaW.PrintMore
attribute [local go_sem] max2_int min2_int max_two min_two max_three min_three max_four min_four   -- for this text's walks alone
set_option linter.unusedVariables false
set_option linter.unusedSimpArgs false

/-! ### examboardlaw10_CodecDistinct: function 7 -/
def examboardlaw10_CodecDistinct.j0 : Nat → List Int → List Int → Bool → Int → Int → Int → ByteArray → List (S24) → Int → Int → Int → ByteArray → List (S24) → Option (Bool)
 | 0, _, _, _, _, _, _, _, _, _, _, _, _, _ => none
 | k + 1, x5, x7, x24, x510000, x510001, x510002, x510003, x510004, x511000, x511001, x511002, x511003, x511004 => if x24 = true then ((examboardlaw10_awake.f k).bind fun t519 => (some t519)) else ((codec_Equal.f k x510000 x510001 x510002 x510003 x510004 x511000 x511001 x511002 x511003 x511004).bind fun t520 => (if (((strOfNums x5).toList == (strOfNums x7).toList) == t520) = true then ((codec_Equal.f k x510000 x510001 x510002 x510003 x510004 x510000 x510001 x510002 x510003 x510004).bind fun t521 => (if t521 = true then ((examboardlaw10_awake.f k).bind fun t522 => (some t522)) else (none))) else (none)))
def examboardlaw10_CodecDistinct.f (k : Nat) (a0_0 : Int) (a0_1 : Int) (a0_2 : Int) (a0_3 : ByteArray) (l0_4 : List (S24)) (a1_0 : Int) (a1_1 : Int) (a1_2 : Int) (a1_3 : ByteArray) (l1_4 : List (S24)) : Option (Bool) := (codec_Encode.f k a0_0 a0_1 a0_2 a0_3 l0_4).bind fun bt511 => ((codec_Encode.f k a1_0 a1_1 a1_2 a1_3 l1_4).bind fun bt515 => (if bt511.2 = 0 then (examboardlaw10_CodecDistinct.j0 k bt511.1 bt515.1 (bt515.2 != 0) a0_0 a0_1 a0_2 a0_3 l0_4 a1_0 a1_1 a1_2 a1_3 l1_4) else (examboardlaw10_CodecDistinct.j0 k bt511.1 bt515.1 true a0_0 a0_1 a0_2 a0_3 l0_4 a1_0 a1_1 a1_2 a1_3 l1_4)))
theorem examboardlaw10_CodecDistinct.mono_l : ∀ k, (∀ y0 y1 y2 y3 y4 y5 y6 y7 y8 y9 y10 y11 y12, LeO (examboardlaw10_CodecDistinct.j0 k y0 y1 y2 y3 y4 y5 y6 y7 y8 y9 y10 y11 y12) (examboardlaw10_CodecDistinct.j0 (k + 1) y0 y1 y2 y3 y4 y5 y6 y7 y8 y9 y10 y11 y12))
 | 0 => fun _ _ _ _ _ _ _ _ _ _ _ _ _ r h => by simp [examboardlaw10_CodecDistinct.j0] at h
 | k + 1 => by
  have ih0 := examboardlaw10_CodecDistinct.mono_l k
  ·
   intro y0 y1 y2 y3 y4 y5 y6 y7 y8 y9 y10 y11 y12
   unfold examboardlaw10_CodecDistinct.j0
   repeat' first
   | (with_reducible exact ih0 _ _ _ _ _ _ _ _ _ _ _ _ _)
   | (with_reducible exact codec_Encode.mono _ _ _ _ _ _)
   | (with_reducible exact codec_Equal.mono _ _ _ _ _ _ _ _ _ _ _)
   | (with_reducible exact examboardlaw10_awake.mono _)
   | (with_reducible exact LeO.refl _)
   | (with_reducible exact LeO.none _)
   | (with_reducible refine LeO.ite ?_ ?_)
   | (with_reducible refine LeO.bind ?_ (fun _ => ?_))
   | exact ih0 _ _ _ _ _ _ _ _ _ _ _ _ _
   | exact codec_Encode.mono _ _ _ _ _ _
   | exact codec_Equal.mono _ _ _ _ _ _ _ _ _ _ _
   | exact examboardlaw10_awake.mono _
   | exact LeO.none _
   | refine LeO.ite ?_ ?_
   | refine LeO.bind ?_ (fun _ => ?_)
theorem examboardlaw10_CodecDistinct.mono : ∀ a0 a1 a2 a3 a4 a5 a6 a7 a8 a9 k, LeO (examboardlaw10_CodecDistinct.f k a0 a1 a2 a3 a4 a5 a6 a7 a8 a9) (examboardlaw10_CodecDistinct.f (k + 1) a0 a1 a2 a3 a4 a5 a6 a7 a8 a9) := by
 intro a0 a1 a2 a3 a4 a5 a6 a7 a8 a9 k
 have ih0 := examboardlaw10_CodecDistinct.mono_l k
 unfold examboardlaw10_CodecDistinct.f
 repeat' first
   | (with_reducible exact ih0 _ _ _ _ _ _ _ _ _ _ _ _ _)
   | (with_reducible exact codec_Encode.mono _ _ _ _ _ _)
   | (with_reducible exact codec_Equal.mono _ _ _ _ _ _ _ _ _ _ _)
   | (with_reducible exact examboardlaw10_awake.mono _)
   | (with_reducible exact LeO.refl _)
   | (with_reducible exact LeO.none _)
   | (with_reducible refine LeO.ite ?_ ?_)
   | (with_reducible refine LeO.bind ?_ (fun _ => ?_))
   | exact ih0 _ _ _ _ _ _ _ _ _ _ _ _ _
   | exact codec_Encode.mono _ _ _ _ _ _
   | exact codec_Equal.mono _ _ _ _ _ _ _ _ _ _ _
   | exact examboardlaw10_awake.mono _
   | exact LeO.none _
   | refine LeO.ite ?_ ?_
   | refine LeO.bind ?_ (fun _ => ?_)
def examboardlaw10_CodecDistinct.T5 : Bool × List (List Nat × List Nat) := (true, [([], []), ([0], [0]), ([], []), ([2], [2]), ([1, 3], [1, 3]), ([], []), ([], []), ([5, 6], [5, 6]), ([4, 7], [4, 7]), ([8, 7], [8]), ([9], [9]), ([9], [9]), ([10, 11, 9, 9], [9, 10, 11]), ([9, 12], [9, 12]), ([13, 12], [13]), ([14, 14], [14]), ([14, 15], [14, 15]), ([16, 15, 0, 1, 2, 3, 4, 5, 6, 7, 8, 9, 10, 11, 12, 13, 14, 15, 16], [16])])
def examboardlaw10_CodecDistinct.B5 : List Nat := [0, 1, 0, 4, 15, 0, 0, 96, 255, 511, 1023, 1023, 4095, 8191, 16383, 32767, 65535, 131071]
theorem examboardlaw10_CodecDistinct.tab5 : rtab .any (opsOf Try.f7 5) = examboardlaw10_CodecDistinct.T5 := by kernel_rfl
theorem examboardlaw10_CodecDistinct.bits5 : waitsOk examboardlaw10_CodecDistinct.T5.2 examboardlaw10_CodecDistinct.B5 = true := by kernel_rfl
theorem examboardlaw10_CodecDistinct.conv {P : Program} {src dst : TypeId} {v : Value} {s : ByteArray} {w : World} (h : (convert src dst v).run P w = .ok (.string s) w) : ∃ S : World → Prop, S w ∧ ∀ w', S w' ↔ (convert src dst v).run P w' = .ok (.string s) w' := ⟨fun w' => (convert src dst v).run P w' = .ok (.string s) w', h, fun _ => Iff.rfl⟩
set_option maxHeartbeats 8000000 in
set_option maxRecDepth 100000 in
theorem examboardlaw10_CodecDistinct.calls (k : Nat) (a0_0 : Int) (a0_1 : Int) (a0_2 : Int) (a0_3 : ByteArray) (A0_4 : Option Addr) (c0_4 : Nat) (l0_4 : List (S24)) (a1_0 : Int) (a1_1 : Int) (a1_2 : Int) (a1_3 : ByteArray) (A1_4 : Option Addr) (c1_4 : Nat) (l1_4 : List (S24)) (r : Bool) (w : World) (hr0_4 : Kd.C k24 w A0_4 l0_4.length l0_4) (hc0_4 : l0_4.length ≤ c0_4) (hr1_4 : Kd.C k24 w A1_4 l1_4.length l1_4) (hc1_4 : l1_4.length ≤ c1_4) (h : examboardlaw10_CodecDistinct.f k a0_0 a0_1 a0_2 a0_3 l0_4 a1_0 a1_1 a1_2 a1_3 l1_4 = some r) :
  Calls Try.prog 7 #[.agg #[.int .i64 a0_0, .int .i64 a0_1, .int .i64 a0_2, .string a0_3, .slice A0_4 l0_4.length c0_4], .agg #[.int .i64 a1_0, .int .i64 a1_1, .int .i64 a1_2, .string a1_3, .slice A1_4 l1_4.length c1_4]] w fun e w' => e = .returned (.bool r) ∧ Below w.heap.size w w' := by
 have hu24 := Try.underlying24
 have HR0_4 := am hr0_4
 have HC0_4 := am hc0_4
 clear hr0_4 hc0_4
 have HR1_4 := am hr1_4
 have HC1_4 := am hc1_4
 clear hr1_4 hc1_4
 have HB := am (Below.refl w.heap.size w)
 have H : ((codec_Encode.f k a0_0 a0_1 a0_2 a0_3 l0_4).bind fun bt511 => ((codec_Encode.f k a1_0 a1_1 a1_2 a1_3 l1_4).bind fun bt515 => (if bt511.2 = 0 then (examboardlaw10_CodecDistinct.j0 k bt511.1 bt515.1 (bt515.2 != 0) a0_0 a0_1 a0_2 a0_3 l0_4 a1_0 a1_1 a1_2 a1_3 l1_4) else (examboardlaw10_CodecDistinct.j0 k bt511.1 bt515.1 true a0_0 a0_1 a0_2 a0_3 l0_4 a1_0 a1_1 a1_2 a1_3 l1_4)))) = some r := h
 clear h
 replace H := Option.bind_eq_some_iff.mp H
 obtain ⟨⟨t511, t514⟩, A30, H⟩ := H
 replace H : ((codec_Encode.f k a1_0 a1_1 a1_2 a1_3 l1_4).bind fun bt515 => (if t514 = 0 then (examboardlaw10_CodecDistinct.j0 k t511 bt515.1 (bt515.2 != 0) a0_0 a0_1 a0_2 a0_3 l0_4 a1_0 a1_1 a1_2 a1_3 l1_4) else (examboardlaw10_CodecDistinct.j0 k t511 bt515.1 true a0_0 a0_1 a0_2 a0_3 l0_4 a1_0 a1_1 a1_2 a1_3 l1_4))) = some r := H
 have A3 := am A30
 clear A30
 replace H := Option.bind_eq_some_iff.mp H
 obtain ⟨⟨t515, t518⟩, A40, H⟩ := H
 replace H : (if t514 = 0 then (examboardlaw10_CodecDistinct.j0 k t511 t515 (t518 != 0) a0_0 a0_1 a0_2 a0_3 l0_4 a1_0 a1_1 a1_2 a1_3 l1_4) else (examboardlaw10_CodecDistinct.j0 k t511 t515 true a0_0 a0_1 a0_2 a0_3 l0_4 a1_0 a1_1 a1_2 a1_3 l1_4)) = some r := H
 have A4 := am A40
 clear A40
 have HC5 := am H
 clear H
 go_enter Try.func7, Try.ntmps7
 go_upto_region 3 with (first | ((with_reducible refine gate_dst (N := 2) rfl ?_); refine box_event ?hg (N := 2) ?hd (cs := #[.int .i64 a0_0, .int .i64 a0_1, .int .i64 a0_2, .string a0_3, .slice A0_4 l0_4.length c0_4]) (t := 24) ?hr ?_; (case hd => rfl); (case hg => rfl); (case hr => exact gz); intro gb509 hg w6 hbox hb; have BK509 := am (hbox); have GW509 := am ((bs hg (hz HB.out) : w.heap.size ≤ gb509)); have GE509 := am ((bs hg (hz HB.out) : w.heap.size ≤ gb509)); replace HB := am (below_step (hz HB.out) hb); clear hb hbox hg) | ((with_reducible refine gate_dst (N := 3) rfl ?_); refine box_event ?hg (N := 3) ?hd (cs := #[.int .i64 a1_0, .int .i64 a1_1, .int .i64 a1_2, .string a1_3, .slice A1_4 l1_4.length c1_4]) (t := 24) ?hr ?_; (case hd => rfl); (case hg => rfl); (case hr => exact gz); intro gb510 hg w7 hbox hb; have BK510 := am (hbox); have GW510 := am ((bs hg (hz1 HB.out GE509.out) : w.heap.size ≤ gb510)); have GE510 := am ((bs hg (hz1 HB.out GE509.out) : w.heap.size ≤ gb510)); replace HB := am (below_step (hz1 HB.out GE509.out) hb); have NB509_510 := am ((nl hg (bz BK509.out) : gb509 ≠ gb510)); have NB510_509 := am ((ng hg (bz BK509.out) : gb510 ≠ gb509)); replace BK509 := am (blk_below (bz BK509.out) hb); clear hb hbox hg; have hnb8 := NB509_510.out; have hnc8 := NB510_509.out; obtain ⟨hcz9_0, hcz9_1, hcz9_2, hcz9_3, hcz9_4⟩ := cs5 BK509.out; obtain ⟨hfz9_0, hfz9_1, hfz9_2, hfz9_3, hfz9_4⟩ := fs5 BK509.out) | ((with_reducible refine gate_callee (f := 8) rfl ?_); refine goesL_ (some 11) rfl rfl Try.func8 (by kernel_rfl) rfl #[.agg #[.int .i64 a0_0, .int .i64 a0_1, .int .i64 a0_2, .string a0_3, .slice A0_4 l0_4.length c0_4]] rfl lz ?_; (with_reducible refine (codec_Encode.calls k a0_0 a0_1 a0_2 a0_3 _ _ l0_4 t511 t514 _ ?side1 ?side2 A3.out).mono ?_); (case side1 => exact cz (Kd.C_below HR0_4.out HB.out)); (case side2 => exact HC0_4.out); rintro e w10 ⟨v512, rfl, ho0, hb⟩; refine ⟨_, rfl, ?_⟩; have HO513 := am (Kd.R_lower ho0 (below_size (hz2 HB.out GE509.out GE510.out))); replace BK509 := am (blk_below (bz BK509.out) hb); replace BK510 := am (blk_below (bz BK510.out) hb); replace HB := am (below_step (hz2 HB.out GE509.out GE510.out) hb); (try clear hb); (try clear hb2); (try clear hk); (try clear hi); (try clear ho0); obtain ⟨hcz11_0, hcz11_1, hcz11_2, hcz11_3, hcz11_4⟩ := cs5 BK510.out; obtain ⟨hfz11_0, hfz11_1, hfz11_2, hfz11_3, hfz11_4⟩ := fs5 BK510.out) | ((with_reducible refine gate_callee (f := 8) rfl ?_); refine goesL_ (some 16) rfl rfl Try.func8 (by kernel_rfl) rfl #[.agg #[.int .i64 a1_0, .int .i64 a1_1, .int .i64 a1_2, .string a1_3, .slice A1_4 l1_4.length c1_4]] rfl lz ?_; (with_reducible refine (codec_Encode.calls k a1_0 a1_1 a1_2 a1_3 _ _ l1_4 t515 t518 _ ?side1 ?side2 A4.out).mono ?_); (case side1 => exact cz (Kd.C_below HR1_4.out HB.out)); (case side2 => exact HC1_4.out); rintro e w12 ⟨v516, rfl, ho0, hb⟩; refine ⟨_, rfl, ?_⟩; have HO517 := am (Kd.R_lower (Kd.R_new' ho0 (Kd.R_lt (rz HO513.out))) (below_size (hz2 HB.out GE509.out GE510.out))); replace HO513 := am (Kd.R_elder' (rz HO513.out) (Kd.R_base ho0) hb); replace BK509 := am (blk_below (bz BK509.out) hb); replace BK510 := am (blk_below (bz BK510.out) hb); replace HB := am (below_step (hz2 HB.out GE509.out GE510.out) hb); (try clear hb); (try clear hb2); (try clear hk); (try clear hi); (try clear ho0)))
 (try simp only [Act.put, List.setIfInBounds_toArray, List.set_cons_zero, List.set_cons_succ])
 go_cut [24] (fun v24 wc => ∃ (kq : Nat) (x24_4 : Bool), v24 = .bool x24_4 ∧ Aside0 (examboardlaw10_CodecDistinct.j0 kq t511 t515 x24_4 a0_0 a0_1 a0_2 a0_3 l0_4 a1_0 a1_1 a1_2 a1_3 l1_4 = some r) ∧ Aside0 (kq ≤ k) ∧ Aside0 (Kd.R (Kd.int .u8) 5 wc w.heap.size (fun k_ => some k_ ≠ (v516 : Value).ownBlock) v512 t511) ∧ Aside0 (Kd.R (Kd.int .u8) 5 wc w.heap.size (fun k_ => some k_ ≠ (v512 : Value).ownBlock) v516 t515) ∧ Aside0 (wc.heap[gb509]? = some (.cells #[.int .i64 a0_0, .int .i64 a0_1, .int .i64 a0_2, .string a0_3, (.slice A0_4 l0_4.length c0_4)] 24 (0, 0))) ∧ Aside0 (wc.heap[gb510]? = some (.cells #[.int .i64 a1_0, .int .i64 a1_1, .int .i64 a1_2, .string a1_3, (.slice A1_4 l1_4.length c1_4)] 24 (0, 0))) ∧ Aside0 (Below w.heap.size w wc))
 case first =>
  have H := HC5.out
  clear HC5
  by_cases c13 : t514 = 0
  ·
   rw [if_pos c13] at H
   have c13b0 : (t514 == 0) = true := beq_iff_eq.mpr c13
   have c13b1 : (t514 != 0) = false := bne_eq_false_iff_eq.mpr c13
   clear c13
   (first | rw [c13b0] | (simp only [i64_w, i32_w]; rw [c13b0]) | skip)
   have H' := am H
   clear H
   go_wp2
   go_meet
   case rel => exact ⟨_, ((t518 != 0)), (by first | rfl | (simp; done) | (simp [*]; done)), H', ⟨by first | omega | exact Nat.le_refl _⟩, ⟨by (with_reducible repeat (first | apply Kd.R_alloc | apply Kd.R_drewN | apply Kd.R_drew)); exact Kd.R_mono HO513.out (fun _ hk => hk.2)⟩, ⟨by (with_reducible repeat (first | apply Kd.R_alloc | apply Kd.R_drewN | apply Kd.R_drew)); exact Kd.R_mono HO517.out (fun _ hk => hk.2)⟩, ⟨by (with_reducible repeat (first | refine blk_drewN ?_ _ | refine blk_drew ?_ | refine blk_alloc ?_ _)); exact BK509.out⟩, ⟨by (with_reducible repeat (first | refine blk_drewN ?_ _ | refine blk_drew ?_ | refine blk_alloc ?_ _)); exact BK510.out⟩, ⟨hz2 HB.out GE509.out GE510.out⟩⟩
  ·
   rw [if_neg c13] at H
   have c13b0 : (t514 == 0) = false := beq_eq_false_iff_ne.mpr c13
   have c13b1 : (t514 != 0) = true := bne_iff_ne.mpr c13
   (first | rw [c13b0] | (simp only [i64_w, i32_w]; rw [c13b0]) | skip)
   have H' := am H
   clear H
   go_wp2
   go_meet
   case rel => exact ⟨_, (true), (by first | rfl | (simp; done) | (simp [*]; done)), H', ⟨by first | omega | exact Nat.le_refl _⟩, ⟨by (with_reducible repeat (first | apply Kd.R_alloc | apply Kd.R_drewN | apply Kd.R_drew)); exact Kd.R_mono HO513.out (fun _ hk => hk.2)⟩, ⟨by (with_reducible repeat (first | apply Kd.R_alloc | apply Kd.R_drewN | apply Kd.R_drew)); exact Kd.R_mono HO517.out (fun _ hk => hk.2)⟩, ⟨by (with_reducible repeat (first | refine blk_drewN ?_ _ | refine blk_drew ?_ | refine blk_alloc ?_ _)); exact BK509.out⟩, ⟨by (with_reducible repeat (first | refine blk_drewN ?_ _ | refine blk_drew ?_ | refine blk_alloc ?_ _)); exact BK510.out⟩, ⟨hz2 HB.out GE509.out GE510.out⟩⟩
 case rest =>
  clear HC5
  try clear c1
  try clear p2
  try clear c7
  try clear c8
  try clear c13
  try clear c13b0
  try clear c13b1
  try clear hcz11_0
  try clear hcz11_1
  try clear hcz11_2
  try clear hcz11_3
  try clear hcz11_4
  try clear hcz9_0
  try clear hcz9_1
  try clear hcz9_2
  try clear hcz9_3
  try clear hcz9_4
  try clear hfz11_0
  try clear hfz11_1
  try clear hfz11_2
  try clear hfz11_3
  try clear hfz11_4
  try clear hfz9_0
  try clear hfz9_1
  try clear hfz9_2
  try clear hfz9_3
  try clear hfz9_4
  obtain ⟨kq, x24_4, rfl, HA, HJ4, HO_5, HO_7, BK509, BK510, HB⟩ := hcut
  cases kq with
  | zero => exact absurd HA.out (by simp [examboardlaw10_CodecDistinct.j0])
  | succ kj4 =>
   have H := HA.out
   clear HA
   simp only [examboardlaw10_CodecDistinct.j0] at H
   by_cases c14 : x24_4 = true
   ·
    subst c14
    have H1 : ((examboardlaw10_awake.f kj4).bind fun t519 => (some t519)) = some r := by rw [if_pos rfl] at H; exact H
    clear H
    have H := H1
    clear H1
    replace H := Option.bind_eq_some_iff.mp H
    obtain ⟨t519, A150, H⟩ := H
    replace H : (some t519) = some r := H
    have A15 := am A150
    clear A150
    obtain rfl := Option.some.inj H
    go_wp2_with (first | ((with_reducible refine gate_callee (f := 12) rfl ?_); refine goesL_ (some 25) rfl rfl Try.func12 (by kernel_rfl) rfl #[] rfl lz ?_; (with_reducible refine (examboardlaw10_awake.calls kj4  t519 _ A15.out).mono ?_); rintro e w16 ⟨rfl, hb⟩; refine ⟨_, rfl, ?_⟩; replace HO_5 := am (Kd.R_below (rz HO_5.out) hb); replace HO_7 := am (Kd.R_below (rz HO_7.out) hb); replace BK509 := am (blk_below (bz BK509.out) hb); replace BK510 := am (blk_below (bz BK510.out) hb); replace HB := am (below_step (hz2 HB.out GE509.out GE510.out) hb); (try clear hb); (try clear hb2); (try clear hk); (try clear hi)))
    go_ret
    exact ⟨ez, hz2 HB.out GE509.out GE510.out⟩
   ·
    replace c14 := Bool.eq_false_iff.mpr c14
    subst c14
    have H1 : ((codec_Equal.f kj4 a0_0 a0_1 a0_2 a0_3 l0_4 a1_0 a1_1 a1_2 a1_3 l1_4).bind fun t520 => (if (((strOfNums t511).toList == (strOfNums t515).toList) == t520) = true then ((codec_Equal.f kj4 a0_0 a0_1 a0_2 a0_3 l0_4 a0_0 a0_1 a0_2 a0_3 l0_4).bind fun t521 => (if t521 = true then ((examboardlaw10_awake.f kj4).bind fun t522 => (some t522)) else (none))) else (none))) = some r := by rw [if_neg (show ¬ (false = true) by decide)] at H; exact H
    clear H
    have H := H1
    clear H1
    replace H := Option.bind_eq_some_iff.mp H
    obtain ⟨t520, A170, H⟩ := H
    replace H : (if (((strOfNums t511).toList == (strOfNums t515).toList) == t520) = true then ((codec_Equal.f kj4 a0_0 a0_1 a0_2 a0_3 l0_4 a0_0 a0_1 a0_2 a0_3 l0_4).bind fun t521 => (if t521 = true then ((examboardlaw10_awake.f kj4).bind fun t522 => (some t522)) else (none))) else (none)) = some r := H
    have A17 := am A170
    clear A170
    replace H := it_ H
    obtain ⟨c18, H⟩ := H
    have c18b0 : (((strOfNums t511).toList == (strOfNums t515).toList) == t520) = true := c18
    (try (have c18b1 : decide (((strOfNums t511).toList == (strOfNums t515).toList) = t520) = true := by simpa using c18))
    (try (have c18b2 : (((strOfNums t511).toList == (strOfNums t515).toList) == t520) = true := by simpa using c18))
    clear c18
    replace H := Option.bind_eq_some_iff.mp H
    obtain ⟨t521, A190, H⟩ := H
    replace H : (if t521 = true then ((examboardlaw10_awake.f kj4).bind fun t522 => (some t522)) else (none)) = some r := H
    have A19 := am A190
    clear A190
    by_cases c20 : t521 = true
    ·
     subst c20
     have H1 : ((examboardlaw10_awake.f kj4).bind fun t522 => (some t522)) = some r := by rw [if_pos rfl] at H; exact H
     clear H
     have H := H1
     clear H1
     replace H := Option.bind_eq_some_iff.mp H
     obtain ⟨t522, A210, H⟩ := H
     replace H : (some t522) = some r := H
     have A21 := am A210
     clear A210
     obtain rfl := Option.some.inj H
     try go_wp2
     replace HO_5 := am (Kd.R_drew HO_5.out)
     replace HO_7 := am (Kd.R_drew HO_7.out)
     replace BK509 := am (blk_drew BK509.out)
     replace BK510 := am (blk_drew BK510.out)
     replace HB := am (below_drew1 HB.out)
     have hcv23 := own_string (P := Try.prog) Try.underlying25 Try.underlying5 Try.underlying9 (Kd.own_of_R HO_5.out)
     have hcv24 := own_string (P := Try.prog) Try.underlying25 Try.underlying5 Try.underlying9 (Kd.own_of_R HO_7.out)
     obtain ⟨Sc0, hSc0, hSd0⟩ := examboardlaw10_CodecDistinct.conv hcv23
     obtain ⟨Sc1, hSc1, hSd1⟩ := examboardlaw10_CodecDistinct.conv hcv24
     refine start_ (n := 18) (S := fun w' => w'.cell? ⟨gb509, 0, none⟩ = some (.int .i64 a0_0) ∧ w'.cell? ⟨gb509, 1, none⟩ = some (.int .i64 a0_1) ∧ w'.cell? ⟨gb509, 2, none⟩ = some (.int .i64 a0_2) ∧ w'.cell? ⟨gb509, 3, none⟩ = some (.string a0_3) ∧ w'.cell? ⟨gb509, 4, none⟩ = some (.slice A0_4 l0_4.length c0_4) ∧ w'.cell? ⟨gb510, 0, none⟩ = some (.int .i64 a1_0) ∧ w'.cell? ⟨gb510, 1, none⟩ = some (.int .i64 a1_1) ∧ w'.cell? ⟨gb510, 2, none⟩ = some (.int .i64 a1_2) ∧ w'.cell? ⟨gb510, 3, none⟩ = some (.string a1_3) ∧ w'.cell? ⟨gb510, 4, none⟩ = some (.slice A1_4 l1_4.length c1_4) ∧ Sc0 w' ∧ Sc1 w') (ds := []) #[false, false, false, false, false, false, false, false, false, false, false, false, false, false, false, false, false, false] (by kernel_rfl) rfl rfl ⟨(blk_cell BK509.out 0).trans rfl, (blk_cell BK509.out 1).trans rfl, (blk_cell BK509.out 2).trans rfl, (blk_cell BK509.out 3).trans rfl, (blk_cell BK509.out 4).trans rfl, (blk_cell BK510.out 0).trans rfl, (blk_cell BK510.out 1).trans rfl, (blk_cell BK510.out 2).trans rfl, (blk_cell BK510.out 3).trans rfl, (blk_cell BK510.out 4).trans rfl, hSc0, hSc1⟩ (fun hHeld => ?_); refine with_tabW examboardlaw10_CodecDistinct.tab5 examboardlaw10_CodecDistinct.bits5 (fun HT_ HW_ => ?_)
     generalize wc.drew = w22 at HO_5 HO_7 BK509 BK510 HB hHeld ⊢
     refine pz 0 26 HT_.out ?_
     refine take_ (i := 1) (N := some 27) (v := ?_) (a' := ?_) #[true, true, false, false, false, false, false, false, false, false, false, false, false, false, false, false, false, false] rfl rfl (take_ofW HT_.out HW_.out (by kernel_rfl)) (fun _ _ _ h => h) (Or.inl ⟨by rfl, ?_⟩) hHeld ?_ ?_
     rotate_left
     ·
      rintro w' ⟨s0, s1, s2, s3, s4, s5, s6, s7, s8, s9, sc0, sc1⟩
      go_simp
      first | (rw [(hSd0 w').1 sc0]; rfl) | (rw [(hSd1 w').1 sc1]; rfl)
     rotate_left
     ·
      simp only [Act.put, List.setIfInBounds_toArray, List.set_cons_zero, List.set_cons_succ, i64_w, i32_w]
      rfl
     refine pz 2 28 HT_.out ?_
     refine take_ (i := 3) (N := some 29) (v := ?_) (a' := ?_) #[true, true, true, true, false, false, false, false, false, false, false, false, false, false, false, false, false, false] rfl rfl (take_ofW HT_.out HW_.out (by kernel_rfl)) (fun _ _ _ h => h) (Or.inl ⟨by rfl, ?_⟩) hHeld ?_ ?_
     rotate_left
     ·
      rintro w' ⟨s0, s1, s2, s3, s4, s5, s6, s7, s8, s9, sc0, sc1⟩
      go_simp
      first | (rw [(hSd0 w').1 sc0]; rfl) | (rw [(hSd1 w').1 sc1]; rfl)
     rotate_left
     ·
      simp only [Act.put, List.setIfInBounds_toArray, List.set_cons_zero, List.set_cons_succ, i64_w, i32_w]
      rfl
     refine pz 4 30 HT_.out ?_
     refine take_ (i := 5) (N := some 31) (v := ?_) (a' := ?_) #[true, true, true, true, true, true, false, false, false, false, false, false, false, false, false, false, false, false] rfl rfl (take_ofW HT_.out HW_.out (by kernel_rfl)) (fun _ _ _ h => h) (Or.inl ⟨by rfl, ?_⟩) hHeld ?_ ?_
     rotate_left
     ·
      rintro w' ⟨s0, s1, s2, s3, s4, s5, s6, s7, s8, s9, sc0, sc1⟩
      go_simp
      with_reducible rfl
     rotate_left
     ·
      simp only [Act.put, List.setIfInBounds_toArray, List.set_cons_zero, List.set_cons_succ, i64_w, i32_w]
      rfl
     refine take_ (i := 6) (N := some 32) (v := ?_) (a' := ?_) #[true, true, true, true, true, true, true, false, false, false, false, false, false, false, false, false, false, false] rfl rfl (take_ofW HT_.out HW_.out (by kernel_rfl)) (fun _ _ _ h => h) (Or.inl ⟨by rfl, ?_⟩) hHeld ?_ ?_
     rotate_left
     ·
      rintro w' ⟨s0, s1, s2, s3, s4, s5, s6, s7, s8, s9, sc0, sc1⟩
      go_simp
      with_reducible rfl
     rotate_left
     ·
      simp only [Act.put, List.setIfInBounds_toArray, List.set_cons_zero, List.set_cons_succ, i64_w, i32_w]
      rfl
     refine oz 7 33 HT_.out (fun K hK => ?_)
     refine goes_ Try.func14 (by kernel_rfl) rfl #[.agg #[.int .i64 a0_0, .int .i64 a0_1, .int .i64 a0_2, .string a0_3, .slice A0_4 l0_4.length c0_4], .agg #[.int .i64 a1_0, .int .i64 a1_1, .int .i64 a1_2, .string a1_3, .slice A1_4 l1_4.length c1_4]] (by rfl) rfl rfl lz ?_
     with_reducible refine (codec_Equal.calls kj4 a0_0 a0_1 a0_2 a0_3 _ _ l0_4 a1_0 a1_1 a1_2 a1_3 _ _ l1_4 t520 _ ?side1 ?side2 ?side3 ?side4 A17.out).mono ?_
     (case side1 => exact cz (Kd.C_below HR0_4.out HB.out))
     (case side2 => exact HC0_4.out)
     (case side3 => exact cz (Kd.C_below HR1_4.out HB.out))
     (case side4 => exact HC1_4.out)
     rintro e w25 ⟨rfl, hb⟩
     refine ⟨_, rfl, ?_⟩
     replace HO_5 := am (Kd.R_below (rz HO_5.out) hb)
     replace HO_7 := am (Kd.R_below (rz HO_7.out) hb)
     replace BK509 := am (blk_below (bz BK509.out) hb)
     replace BK510 := am (blk_below (bz BK510.out) hb)
     replace HB := am (below_step (hz2 HB.out GE509.out GE510.out) hb)
     (try clear hb)
     (try clear hb2)
     (try clear hk)
     (try clear hi)
     refine hK.out _ _ ⟨(blk_cell BK509.out 0).trans rfl, (blk_cell BK509.out 1).trans rfl, (blk_cell BK509.out 2).trans rfl, (blk_cell BK509.out 3).trans rfl, (blk_cell BK509.out 4).trans rfl, (blk_cell BK510.out 0).trans rfl, (blk_cell BK510.out 1).trans rfl, (blk_cell BK510.out 2).trans rfl, (blk_cell BK510.out 3).trans rfl, (blk_cell BK510.out 4).trans rfl, (hSd0 _).2 (own_string (P := Try.prog) Try.underlying25 Try.underlying5 Try.underlying9 (Kd.own_of_R HO_5.out)), (hSd1 _).2 (own_string (P := Try.prog) Try.underlying25 Try.underlying5 Try.underlying9 (Kd.own_of_R HO_7.out))⟩ (fun hHeld => ?_)
     clear hK K
     refine norm_ (a' := ?_) ?_ ?_
     rotate_left
     ·
      show Act.put _ (some 33) _ = _
      simp only [Act.put, List.setIfInBounds_toArray, List.set_cons_zero, List.set_cons_succ, i64_w, i32_w]
      rfl
     refine pz 8 34 HT_.out ?_
     refine pz 9 35 HT_.out ?_
     refine take_ (i := 10) (N := some 36) (v := ?_) (a' := ?_) #[true, true, true, true, true, true, true, true, true, true, true, false, false, false, false, false, false, false] rfl rfl (take_ofW HT_.out HW_.out (by kernel_rfl)) (fun _ _ _ h => h) (Or.inl ⟨by rfl, ?_⟩) hHeld ?_ ?_
     rotate_left
     ·
      rintro w' ⟨s0, s1, s2, s3, s4, s5, s6, s7, s8, s9, sc0, sc1⟩
      go_simp
      with_reducible rfl
     rotate_left
     ·
      simp only [Act.put, List.setIfInBounds_toArray, List.set_cons_zero, List.set_cons_succ, i64_w, i32_w]
      rfl
     refine take_ (i := 11) (N := some 37) (v := ?_) (a' := ?_) #[true, true, true, true, true, true, true, true, true, true, true, true, false, false, false, false, false, false] rfl rfl (take_ofW HT_.out HW_.out (by kernel_rfl)) (fun _ _ _ h => h) (Or.inl ⟨by rfl, ?_⟩) hHeld ?_ ?_
     rotate_left
     ·
      rintro w' ⟨s0, s1, s2, s3, s4, s5, s6, s7, s8, s9, sc0, sc1⟩
      go_simp
      with_reducible rfl
     rotate_left
     ·
      simp only [Act.put, List.setIfInBounds_toArray, List.set_cons_zero, List.set_cons_succ, i64_w, i32_w]
      rfl
     refine oz 12 38 HT_.out (fun K hK => ?_)
     refine goes_ Try.func14 (by kernel_rfl) rfl #[.agg #[.int .i64 a0_0, .int .i64 a0_1, .int .i64 a0_2, .string a0_3, .slice A0_4 l0_4.length c0_4], .agg #[.int .i64 a0_0, .int .i64 a0_1, .int .i64 a0_2, .string a0_3, .slice A0_4 l0_4.length c0_4]] (by rfl) rfl rfl lz ?_
     with_reducible refine (codec_Equal.calls kj4 a0_0 a0_1 a0_2 a0_3 _ _ l0_4 a0_0 a0_1 a0_2 a0_3 _ _ l0_4 true _ ?side1 ?side2 ?side3 ?side4 A19.out).mono ?_
     (case side1 => exact cz (Kd.C_below HR0_4.out HB.out))
     (case side2 => exact HC0_4.out)
     (case side3 => exact cz (Kd.C_below HR0_4.out HB.out))
     (case side4 => exact HC0_4.out)
     rintro e w27 ⟨rfl, hb⟩
     refine ⟨_, rfl, ?_⟩
     replace HO_5 := am (Kd.R_below (rz HO_5.out) hb)
     replace HO_7 := am (Kd.R_below (rz HO_7.out) hb)
     replace BK509 := am (blk_below (bz BK509.out) hb)
     replace BK510 := am (blk_below (bz BK510.out) hb)
     replace HB := am (below_step (hz2 HB.out GE509.out GE510.out) hb)
     (try clear hb)
     (try clear hb2)
     (try clear hk)
     (try clear hi)
     refine hK.out _ _ ⟨(blk_cell BK509.out 0).trans rfl, (blk_cell BK509.out 1).trans rfl, (blk_cell BK509.out 2).trans rfl, (blk_cell BK509.out 3).trans rfl, (blk_cell BK509.out 4).trans rfl, (blk_cell BK510.out 0).trans rfl, (blk_cell BK510.out 1).trans rfl, (blk_cell BK510.out 2).trans rfl, (blk_cell BK510.out 3).trans rfl, (blk_cell BK510.out 4).trans rfl, (hSd0 _).2 (own_string (P := Try.prog) Try.underlying25 Try.underlying5 Try.underlying9 (Kd.own_of_R HO_5.out)), (hSd1 _).2 (own_string (P := Try.prog) Try.underlying25 Try.underlying5 Try.underlying9 (Kd.own_of_R HO_7.out))⟩ (fun hHeld => ?_)
     clear hK K
     refine norm_ (a' := ?_) ?_ ?_
     rotate_left
     ·
      show Act.put _ (some 38) _ = _
      simp only [Act.put, List.setIfInBounds_toArray, List.set_cons_zero, List.set_cons_succ, i64_w, i32_w]
      rfl
     refine pz 13 39 HT_.out ?_
     refine pz 14 40 HT_.out ?_
     refine oz 15 41 HT_.out (fun K hK => ?_)
     refine goes_ Try.func12 (by kernel_rfl) rfl #[] (by rfl) rfl rfl lz ?_
     with_reducible refine (examboardlaw10_awake.calls kj4  t522 _ A21.out).mono ?_
     rintro e w28 ⟨rfl, hb⟩
     refine ⟨_, rfl, ?_⟩
     replace HO_5 := am (Kd.R_below (rz HO_5.out) hb)
     replace HO_7 := am (Kd.R_below (rz HO_7.out) hb)
     replace BK509 := am (blk_below (bz BK509.out) hb)
     replace BK510 := am (blk_below (bz BK510.out) hb)
     replace HB := am (below_step (hz2 HB.out GE509.out GE510.out) hb)
     (try clear hb)
     (try clear hb2)
     (try clear hk)
     (try clear hi)
     refine hK.out _ _ ⟨(blk_cell BK509.out 0).trans rfl, (blk_cell BK509.out 1).trans rfl, (blk_cell BK509.out 2).trans rfl, (blk_cell BK509.out 3).trans rfl, (blk_cell BK509.out 4).trans rfl, (blk_cell BK510.out 0).trans rfl, (blk_cell BK510.out 1).trans rfl, (blk_cell BK510.out 2).trans rfl, (blk_cell BK510.out 3).trans rfl, (blk_cell BK510.out 4).trans rfl, (hSd0 _).2 (own_string (P := Try.prog) Try.underlying25 Try.underlying5 Try.underlying9 (Kd.own_of_R HO_5.out)), (hSd1 _).2 (own_string (P := Try.prog) Try.underlying25 Try.underlying5 Try.underlying9 (Kd.own_of_R HO_7.out))⟩ (fun hHeld => ?_)
     clear hK K
     refine norm_ (a' := ?_) ?_ ?_
     rotate_left
     ·
      show Act.put _ (some 41) _ = _
      simp only [Act.put, List.setIfInBounds_toArray, List.set_cons_zero, List.set_cons_succ, i64_w, i32_w]
      rfl
     refine pz 16 42 HT_.out ?_
     refine pz 17 4 HT_.out ?_
     refine done_ (done_of HT_.out (by kernel_rfl)) ?_
     try go_wp2
     go_ret
     exact ⟨ez, hz2 HB.out GE509.out GE510.out⟩
    ·
     replace c20 := Bool.eq_false_iff.mpr c20
     subst c20
     have H1 : (none) = some r := by rw [if_neg (show ¬ (false = true) by decide)] at H; exact H
     clear H
     have H := H1
     clear H1
     exact absurd H (by simp)

end Go.Proofs.Ytipjfhakcceebaa.Q
