/- Made by wip/myprint.py of this session (it drives the kit's printer): what the calls of the Go functions come to, as plain Lean functions, and the row of a law over them; without conditions. -/
import Derived.Test.YtipjfhakcceebaaQx0
import Derived.Test.YtipjfhakcceebaaQx5
import Derived.Test.YtipjfhakcceebaaQx7
import Derived.Test.YtipjfhakcceebaaQx10
namespace Go.Proofs.Ytipjfhakcceebaa.Q
open Go.RowKit Go.Proofs.YtipjfhakcceebaaW.PrintWords Go.Proofs.YtipjfhakcceebaaW.PrintLast Go.Proofs.YtipjfhakcceebaaW.PrintMore
attribute [local go_sem] max2_int min2_int max_two min_two max_three min_three max_four min_four   -- for this text's walks alone
set_option linter.unusedVariables false
set_option linter.unusedSimpArgs false

/-! ### examboardlaw10_CodecCut: function 6 -/
def examboardlaw10_CodecCut.j0 : Nat → Int → List Int → Bool → Option (Bool)
 | 0, _, _, _ => none
 | k + 1, x1, x5, x22 => if x22 = true then ((examboardlaw10_awake.f k).bind fun t493 => (some t493)) else (if 0 ≤ x1 then (if x1 ≤ (x5.length : Int) then ((codec_Decode.f k (x5.take (x1 : Int).toNat)).bind fun bt498 => (if bt498.2.2.2.2.2.2 = 4 then (if bt498.2.2.2.2.2.1 = 0 then ((examboardlaw10_awake.f k).bind fun t508 => (some t508)) else (none)) else (none))) else (none)) else (none))
def examboardlaw10_CodecCut.f (k : Nat) (a0_0 : Int) (a0_1 : Int) (a0_2 : Int) (a0_3 : ByteArray) (l0_4 : List (S24)) (a1 : Int) : Option (Bool) := (codec_Encode.f k a0_0 a0_1 a0_2 a0_3 l0_4).bind fun bt489 => (if bt489.2 = 0 then (examboardlaw10_CodecCut.j0 k a1 bt489.1 (decide ((wrap64 (a1)) ≥ (bt489.1.length : Int)))) else (examboardlaw10_CodecCut.j0 k a1 bt489.1 true))
theorem examboardlaw10_CodecCut.mono_l : ∀ k, (∀ y0 y1 y2, LeO (examboardlaw10_CodecCut.j0 k y0 y1 y2) (examboardlaw10_CodecCut.j0 (k + 1) y0 y1 y2))
 | 0 => fun _ _ _ r h => by simp [examboardlaw10_CodecCut.j0] at h
 | k + 1 => by
  have ih0 := examboardlaw10_CodecCut.mono_l k
  ·
   intro y0 y1 y2
   unfold examboardlaw10_CodecCut.j0
   repeat' first
   | (with_reducible exact ih0 _ _ _)
   | (with_reducible exact codec_Decode.mono _ _)
   | (with_reducible exact codec_Encode.mono _ _ _ _ _ _)
   | (with_reducible exact examboardlaw10_awake.mono _)
   | (with_reducible exact LeO.refl _)
   | (with_reducible exact LeO.none _)
   | (with_reducible refine LeO.ite ?_ ?_)
   | (with_reducible refine LeO.bind ?_ (fun _ => ?_))
   | exact ih0 _ _ _
   | exact codec_Decode.mono _ _
   | exact codec_Encode.mono _ _ _ _ _ _
   | exact examboardlaw10_awake.mono _
   | exact LeO.none _
   | refine LeO.ite ?_ ?_
   | refine LeO.bind ?_ (fun _ => ?_)
theorem examboardlaw10_CodecCut.mono : ∀ a0 a1 a2 a3 a4 a5 k, LeO (examboardlaw10_CodecCut.f k a0 a1 a2 a3 a4 a5) (examboardlaw10_CodecCut.f (k + 1) a0 a1 a2 a3 a4 a5) := by
 intro a0 a1 a2 a3 a4 a5 k
 have ih0 := examboardlaw10_CodecCut.mono_l k
 unfold examboardlaw10_CodecCut.f
 repeat' first
   | (with_reducible exact ih0 _ _ _)
   | (with_reducible exact codec_Decode.mono _ _)
   | (with_reducible exact codec_Encode.mono _ _ _ _ _ _)
   | (with_reducible exact examboardlaw10_awake.mono _)
   | (with_reducible exact LeO.refl _)
   | (with_reducible exact LeO.none _)
   | (with_reducible refine LeO.ite ?_ ?_)
   | (with_reducible refine LeO.bind ?_ (fun _ => ?_))
   | exact ih0 _ _ _
   | exact codec_Decode.mono _ _
   | exact codec_Encode.mono _ _ _ _ _ _
   | exact examboardlaw10_awake.mono _
   | exact LeO.none _
   | refine LeO.ite ?_ ?_
   | refine LeO.bind ?_ (fun _ => ?_)
set_option maxHeartbeats 8000000 in
set_option maxRecDepth 100000 in
theorem examboardlaw10_CodecCut.calls (k : Nat) (a0_0 : Int) (a0_1 : Int) (a0_2 : Int) (a0_3 : ByteArray) (A0_4 : Option Addr) (c0_4 : Nat) (l0_4 : List (S24)) (a1 : Int) (r : Bool) (w : World) (hr0_4 : Kd.C k24 w A0_4 l0_4.length l0_4) (hc0_4 : l0_4.length ≤ c0_4) (h : examboardlaw10_CodecCut.f k a0_0 a0_1 a0_2 a0_3 l0_4 a1 = some r) :
  Calls Try.prog 6 #[.agg #[.int .i64 a0_0, .int .i64 a0_1, .int .i64 a0_2, .string a0_3, .slice A0_4 l0_4.length c0_4], .int .u16 a1] w fun e w' => e = .returned (.bool r) ∧ Below w.heap.size w w' := by
 have hu24 := Try.underlying24
 have HR0_4 := am hr0_4
 have HC0_4 := am hc0_4
 clear hr0_4 hc0_4
 have HB := am (Below.refl w.heap.size w)
 have H : ((codec_Encode.f k a0_0 a0_1 a0_2 a0_3 l0_4).bind fun bt489 => (if bt489.2 = 0 then (examboardlaw10_CodecCut.j0 k a1 bt489.1 (decide ((wrap64 (a1)) ≥ (bt489.1.length : Int)))) else (examboardlaw10_CodecCut.j0 k a1 bt489.1 true))) = some r := h
 clear h
 replace H := Option.bind_eq_some_iff.mp H
 obtain ⟨⟨t489, t492⟩, A30, H⟩ := H
 replace H : (if t492 = 0 then (examboardlaw10_CodecCut.j0 k a1 t489 (decide ((wrap64 (a1)) ≥ (t489.length : Int)))) else (examboardlaw10_CodecCut.j0 k a1 t489 true)) = some r := H
 have A3 := am A30
 clear A30
 have HC4 := am H
 clear H
 go_enter Try.func6, Try.ntmps6
 go_upto_region 2 with (first | ((with_reducible refine gate_dst (N := 2) rfl ?_); (try (refine gate_guard (by rfl) ?_; dsimp only)); refine box_event ?hg (N := 2) ?hd (cs := #[.int .i64 a0_0, .int .i64 a0_1, .int .i64 a0_2, .string a0_3, .slice A0_4 l0_4.length c0_4]) (t := 24) ?hr ?_; (case hd => rfl); (case hg => rfl); (case hr => exact gz); intro gb488 hg w5 hbox hb; have BK488 := am (hbox); have GW488 := am ((bs hg (hz HB.out) : w.heap.size ≤ gb488)); have GE488 := am ((bs hg (hz HB.out) : w.heap.size ≤ gb488)); replace HB := am (below_step (hz HB.out) hb); clear hb hbox hg; obtain ⟨hcz6_0, hcz6_1, hcz6_2, hcz6_3, hcz6_4⟩ := cs5 BK488.out; obtain ⟨hfz6_0, hfz6_1, hfz6_2, hfz6_3, hfz6_4⟩ := fs5 BK488.out) | ((with_reducible refine gate_callee (f := 8) rfl ?_); refine goesL_ (some 11) rfl rfl Try.func8 (by kernel_rfl) rfl #[.agg #[.int .i64 a0_0, .int .i64 a0_1, .int .i64 a0_2, .string a0_3, .slice A0_4 l0_4.length c0_4]] rfl lz ?_; (with_reducible refine (codec_Encode.calls k a0_0 a0_1 a0_2 a0_3 _ _ l0_4 t489 t492 _ ?side1 ?side2 A3.out).mono ?_); (case side1 => exact cz (Kd.C_below HR0_4.out HB.out)); (case side2 => exact HC0_4.out); rintro e w7 ⟨v490, rfl, ho0, hb⟩; refine ⟨_, rfl, ?_⟩; have HO491 := am (Kd.R_lower ho0 (below_size (hz1 HB.out GE488.out))); replace BK488 := am (blk_below (bz BK488.out) hb); replace HB := am (below_step (hz1 HB.out GE488.out) hb); (try clear hb); (try clear hb2); (try clear hk); (try clear hi); (try clear ho0)))
 (try simp only [Act.put, List.setIfInBounds_toArray, List.set_cons_zero, List.set_cons_succ])
 go_cut [22] (fun v22 wc => ∃ (kq : Nat) (x22_3 : Bool), v22 = .bool x22_3 ∧ Aside0 (examboardlaw10_CodecCut.j0 kq a1 t489 x22_3 = some r) ∧ Aside0 (kq ≤ k) ∧ Aside0 (Kd.R (Kd.int .u8) 5 wc w.heap.size (fun _ => True) v490 t489) ∧ Aside0 (wc.heap[gb488]? = some (.cells #[.int .i64 a0_0, .int .i64 a0_1, .int .i64 a0_2, .string a0_3, (.slice A0_4 l0_4.length c0_4)] 24 (0, 0))) ∧ Aside0 (Below w.heap.size w wc))
 case first =>
  have H := HC4.out
  clear HC4
  by_cases c8 : t492 = 0
  ·
   rw [if_pos c8] at H
   have c8b0 : (t492 == 0) = true := beq_iff_eq.mpr c8
   have c8b1 : (t492 != 0) = false := bne_eq_false_iff_eq.mpr c8
   clear c8
   (first | rw [c8b0] | (simp only [i64_w, i32_w]; rw [c8b0]) | skip)
   have H' := am H
   clear H
   obtain ⟨Ao9, co9, eo9⟩ := Kd.R_slice HO491.out
   subst eo9
   go_wp2
   go_meet
   case rel => exact ⟨_, (decide ((wrap64 (a1)) ≥ (t489.length : Int))), (by first | rfl | (simp; done) | (simp [*]; done)), H', ⟨by first | omega | exact Nat.le_refl _⟩, ⟨by (with_reducible repeat (first | apply Kd.R_alloc | apply Kd.R_drewN | apply Kd.R_drew)); exact HO491.out⟩, ⟨by (with_reducible repeat (first | refine blk_drewN ?_ _ | refine blk_drew ?_ | refine blk_alloc ?_ _)); exact BK488.out⟩, ⟨hz1 HB.out GE488.out⟩⟩
  ·
   rw [if_neg c8] at H
   have c8b0 : (t492 == 0) = false := beq_eq_false_iff_ne.mpr c8
   have c8b1 : (t492 != 0) = true := bne_iff_ne.mpr c8
   (first | rw [c8b0] | (simp only [i64_w, i32_w]; rw [c8b0]) | skip)
   have H' := am H
   clear H
   go_wp2
   go_meet
   case rel => exact ⟨_, (true), (by first | rfl | (simp; done) | (simp [*]; done)), H', ⟨by first | omega | exact Nat.le_refl _⟩, ⟨by (with_reducible repeat (first | apply Kd.R_alloc | apply Kd.R_drewN | apply Kd.R_drew)); exact HO491.out⟩, ⟨by (with_reducible repeat (first | refine blk_drewN ?_ _ | refine blk_drew ?_ | refine blk_alloc ?_ _)); exact BK488.out⟩, ⟨hz1 HB.out GE488.out⟩⟩
 case rest =>
  clear HC4
  try clear p2
  try clear c6
  try clear p6
  try clear c8
  try clear c8b0
  try clear c8b1
  try clear hcz6_0
  try clear hcz6_1
  try clear hcz6_2
  try clear hcz6_3
  try clear hcz6_4
  try clear hfz6_0
  try clear hfz6_1
  try clear hfz6_2
  try clear hfz6_3
  try clear hfz6_4
  obtain ⟨kq, x22_3, rfl, HA, HJ3, HO_5, BK488, HB⟩ := hcut
  cases kq with
  | zero => exact absurd HA.out (by simp [examboardlaw10_CodecCut.j0])
  | succ kj3 =>
   have H := HA.out
   clear HA
   simp only [examboardlaw10_CodecCut.j0] at H
   by_cases c10 : x22_3 = true
   ·
    subst c10
    have H1 : ((examboardlaw10_awake.f kj3).bind fun t493 => (some t493)) = some r := by rw [if_pos rfl] at H; exact H
    clear H
    have H := H1
    clear H1
    replace H := Option.bind_eq_some_iff.mp H
    obtain ⟨t493, A110, H⟩ := H
    replace H : (some t493) = some r := H
    have A11 := am A110
    clear A110
    obtain rfl := Option.some.inj H
    go_wp2_with (first | ((with_reducible refine gate_callee (f := 12) rfl ?_); refine goesL_ (some 23) rfl rfl Try.func12 (by kernel_rfl) rfl #[] rfl lz ?_; (with_reducible refine (examboardlaw10_awake.calls kj3  t493 _ A11.out).mono ?_); rintro e w12 ⟨rfl, hb⟩; refine ⟨_, rfl, ?_⟩; replace HO_5 := am (Kd.R_below (rz HO_5.out) hb); replace BK488 := am (blk_below (bz BK488.out) hb); replace HB := am (below_step (hz1 HB.out GE488.out) hb); (try clear hb); (try clear hb2); (try clear hk); (try clear hi)))
    go_ret
    exact ⟨ez, hz1 HB.out GE488.out⟩
   ·
    replace c10 := Bool.eq_false_iff.mpr c10
    subst c10
    have H1 : (if 0 ≤ a1 then (if a1 ≤ (t489.length : Int) then ((codec_Decode.f kj3 (t489.take (a1 : Int).toNat)).bind fun bt498 => (if bt498.2.2.2.2.2.2 = 4 then (if bt498.2.2.2.2.2.1 = 0 then ((examboardlaw10_awake.f kj3).bind fun t508 => (some t508)) else (none)) else (none))) else (none)) else (none)) = some r := by rw [if_neg (show ¬ (false = true) by decide)] at H; exact H
    clear H
    have H := H1
    clear H1
    replace H := it_ H
    obtain ⟨c13, H⟩ := H
    have c13b0 := eq_true c13
    have c13b1 : decide (0 ≤ a1) = true := decide_eq_true c13
    clear c13
    replace H := it_ H
    obtain ⟨c14, H⟩ := H
    have c14b0 := eq_true c14
    have c14b1 : decide (a1 ≤ (t489.length : Int)) = true := decide_eq_true c14
    clear c14
    obtain ⟨y494, hy494⟩ : ∃ y_ : List Int, y_ = (t489.take (a1 : Int).toNat) := ⟨_, rfl⟩
    replace H : ((codec_Decode.f kj3 y494).bind fun bt498 => (if bt498.2.2.2.2.2.2 = 4 then (if bt498.2.2.2.2.2.1 = 0 then ((examboardlaw10_awake.f kj3).bind fun t508 => (some t508)) else (none)) else (none))) = some r := by first | (rw [hy494]; with_reducible exact H) | (have H2_ := (Option.bind_some _ _).symm.trans H; rw [hy494]; with_reducible exact H2_) | (have H2_ := (Option.bind_some _ _).symm.trans H; with_reducible exact H2_) | with_reducible exact H | (rw [hy494]; exact H) | exact H
    have Ny494 := am hy494
    clear hy494
    replace H := Option.bind_eq_some_iff.mp H
    obtain ⟨⟨t498, t499, t500, t501, t502, t505, t506⟩, A150, H⟩ := H
    replace H : (if t506 = 4 then (if t505 = 0 then ((examboardlaw10_awake.f kj3).bind fun t508 => (some t508)) else (none)) else (none)) = some r := H
    have A15 := am A150
    clear A150
    replace H := it_ H
    obtain ⟨c16, H⟩ := H
    have c16b0 : (t506 == 4) = true := beq_iff_eq.mpr c16
    have c16b1 : (t506 != 4) = false := bne_eq_false_iff_eq.mpr c16
    clear c16
    replace H := it_ H
    obtain ⟨c17, H⟩ := H
    have c17b0 : (t505 == 0) = true := beq_iff_eq.mpr c17
    have c17b1 : (t505 != 0) = false := bne_eq_false_iff_eq.mpr c17
    clear c17
    replace H := Option.bind_eq_some_iff.mp H
    obtain ⟨t508, A180, H⟩ := H
    replace H : (some t508) = some r := H
    have A18 := am A180
    clear A180
    obtain rfl := Option.some.inj H
    obtain ⟨Ao20, co20, eo20⟩ := Kd.R_slice HO_5.out
    subst eo20
    have q19 : (a1 : Int) ≤ ((t489.length : Int) : Int) := of_decide_eq_true az
    obtain ⟨i019, hi019, _, hsz19, _⟩ := info_parts info5
    have hroom19 : t489.length ≤ co20 := (Kd.R_reads' HO_5.out).2.1
    have hC19 : Kd.C (Kd.int .u8) _ Ao20 t489.length t489 := (Kd.R_reads' HO_5.out).2.2
    have hcut19 := cut_to (P := Try.prog) 25 5 .u16 Try.underlying25 hi019 Ao20 t489.length co20 a1 (of_decide_eq_true az) q19 hroom19
    have hr19 := Kd.C_take (m := (a1 : Int).toNat) hC19 (by omega)
    have hy19 : y494.length = (a1 : Int).toNat := (by rw [Ny494.out, List.length_take]; omega)
    rw [← Ny494.out] at hr19
    rw [← hy19] at hcut19
    have HR497 := am hr19
    have HC497 := am (show y494.length ≤ co20 from by omega)
    clear hr19 hC19 hroom19 hi019 hsz19
    have KY19 := am hy19
    clear hy19
    have KL19 := am (show (a1 : Int).toNat ≤ t489.length from by omega)
    replace q19 := eq_true q19
    go_wp2_with (first | ((with_reducible refine gate_callee (f := 13) rfl ?_); refine goesL_ (some 28) rfl rfl Try.func13 (by kernel_rfl) rfl #[.slice Ao20 y494.length co20] rfl lz ?_; (with_reducible refine (codec_Decode.calls kj3 _ _ y494 t498 t499 t500 t501 t502 t505 t506 _ ?side1 ?side2 A15.out).mono ?_); (case side1 => repeat (first | exact (cz HR497.out) | (with_reducible refine Kd.C_alloc ?_ _) | (with_reducible refine Kd.C_drewN ?_ _) | (with_reducible refine Kd.C_drew ?_))); (case side2 => exact HC497.out); rintro e w21 ⟨v503, rfl, ho0, hb⟩; refine ⟨_, rfl, ?_⟩; replace HO_5 := am (Kd.R_below (rz HO_5.out) hb); have HO504 := am (Kd.R_lower (Kd.R_newB ho0 (g := gb488) (o := .cells #[.int .i64 a0_0, .int .i64 a0_1, .int .i64 a0_2, .string a0_3, .slice A0_4 l0_4.length c0_4] 24 (0, 0)) (bz BK488.out)) (below_size (hz1 HB.out GE488.out))); replace BK488 := am (blk_below (bz BK488.out) hb); replace HR497 := am (Kd.C_below (cz HR497.out) hb); replace HB := am (below_step (hz1 HB.out GE488.out) hb); (try clear hb); (try clear hb2); (try clear hk); (try clear hi); (try clear ho0)) | ((with_reducible refine gate_dst (N := 7) rfl ?_); (try (refine gate_guard (by rfl) ?_; dsimp only)); refine box_event ?hg (N := 7) ?hd (cs := #[.int .i64 0, .int .i64 0, .int .i64 0, .string (⟨#[]⟩ : ByteArray), .slice none 0 0]) (t := 24) ?hr ?_; (case hd => rfl); (case hg => rfl); (case hr => exact gz); intro gb507 hg w22 hbox hb; replace HO_5 := am (Kd.R_below (rz HO_5.out) hb); replace HO504 := am (Kd.R_below (Kd.R_elderB (rz HO504.out) gb507 (Nat.le_of_eq hg.symm)) hb); replace HR497 := am (Kd.C_below (cz HR497.out) hb); have BK507 := am (hbox); have GW507 := am ((bs hg (hz1 HB.out GE488.out) : w.heap.size ≤ gb507)); have GE507 := am ((bs hg (hz1 HB.out GE488.out) : w.heap.size ≤ gb507)); replace HB := am (below_step (hz1 HB.out GE488.out) hb); have NB488_507 := am ((nl hg (bz BK488.out) : gb488 ≠ gb507)); have NB507_488 := am ((ng hg (bz BK488.out) : gb507 ≠ gb488)); replace BK488 := am (blk_below (bz BK488.out) hb); clear hb hbox hg; have hnb23 := NB507_488.out; have hnc23 := NB488_507.out; obtain ⟨hcz24_0, hcz24_1, hcz24_2, hcz24_3, hcz24_4⟩ := cs5 BK507.out; obtain ⟨hfz24_0, hfz24_1, hfz24_2, hfz24_3, hfz24_4⟩ := fs5 BK507.out; obtain ⟨Ao25, co25, eo25⟩ := Kd.R_slice HO504.out; subst eo25) | (go_at_call 12; (with_reducible refine (examboardlaw10_awake.calls kj3  t508 _ A18.out).mono ?_); rintro e w26 ⟨rfl, hb⟩; replace HO_5 := am (Kd.R_below (rz (Kd.R_mono (Kd.R_far (p := ⟨gb507, 4, none⟩) (rfg4 HO_5.out BK507.out) (fun _ hk => hk.2) (.slice Ao25 t502.length co25)) (fun _ h_ => h_.1))) hb); replace HO504 := am (Kd.R_below (rz (Kd.R_mono (Kd.R_far (p := ⟨gb507, 4, none⟩) (Kd.R_far (p := ⟨gb507, 3, none⟩) (Kd.R_far (p := ⟨gb507, 2, none⟩) (Kd.R_far (p := ⟨gb507, 1, none⟩) (Kd.R_far (p := ⟨gb507, 0, none⟩) (Kd.R_mono HO504.out (fun k_ hk => (⟨hk, hk.2⟩ : _ ∧ k_ ≠ gb507))) (fun _ hk => hk.2) (.int .i64 t498)) (fun _ hk => hk.2) (.int .i64 t499)) (fun _ hk => hk.2) (.int .i64 t500)) (fun _ hk => hk.2) (.string t501)) (fun _ hk => hk.2) (.slice Ao25 t502.length co25)) (fun _ h_ => h_.1))) hb); replace BK488 := am (blk_below (bf1 NB488_507.out BK488.out) hb); replace BK507 := am (blk_below (g := gb507) (o := .cells #[.int .i64 t498, .int .i64 t499, .int .i64 t500, .string t501, .slice Ao25 t502.length co25] 24 (0, 0)) (by (with_reducible repeat (first | refine blk_drewN ?_ _ | refine blk_drew ?_ | refine blk_alloc ?_ _)); refine blk_put (cs := #[.int .i64 t498, .int .i64 t499, .int .i64 t500, .string t501, .slice none 0 0]) ?_ 4 _ rfl; (with_reducible repeat (first | refine blk_drewN ?_ _ | refine blk_drew ?_ | refine blk_alloc ?_ _)); refine blk_put (cs := #[.int .i64 t498, .int .i64 t499, .int .i64 t500, .string (⟨#[]⟩ : ByteArray), .slice none 0 0]) ?_ 3 _ rfl; (with_reducible repeat (first | refine blk_drewN ?_ _ | refine blk_drew ?_ | refine blk_alloc ?_ _)); refine blk_put (cs := #[.int .i64 t498, .int .i64 t499, .int .i64 0, .string (⟨#[]⟩ : ByteArray), .slice none 0 0]) ?_ 2 _ rfl; (with_reducible repeat (first | refine blk_drewN ?_ _ | refine blk_drew ?_ | refine blk_alloc ?_ _)); refine blk_put (cs := #[.int .i64 t498, .int .i64 0, .int .i64 0, .string (⟨#[]⟩ : ByteArray), .slice none 0 0]) ?_ 1 _ rfl; (with_reducible repeat (first | refine blk_drewN ?_ _ | refine blk_drew ?_ | refine blk_alloc ?_ _)); refine blk_put (cs := #[.int .i64 0, .int .i64 0, .int .i64 0, .string (⟨#[]⟩ : ByteArray), .slice none 0 0]) ?_ 0 _ rfl; (with_reducible repeat (first | refine blk_drewN ?_ _ | refine blk_drew ?_ | refine blk_alloc ?_ _)); exact BK507.out) hb); replace HB := am (below_step (hz2 HB.out GE488.out GE507.out) hb); (try clear hb); (try clear hb2); (try clear hk); (try clear hi)))
    go_ret
    exact ⟨ez, hz2 HB.out GE488.out GE507.out⟩

end Go.Proofs.Ytipjfhakcceebaa.Q
