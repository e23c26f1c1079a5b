/- Made by wip/myprint.py of this session (it drives the kit's printer): what the calls of the Go functions come to, as plain Lean functions, and the row of a law over them; without conditions. -/
import Derived.Test.YtglpnbcockancaaQx0
import Derived.Test.YtglpnbcockancaaQx2
import Derived.Test.YtglpnbcockancaaQx4
import Derived.Test.YtglpnbcockancaaQx6
namespace Go.Proofs.Ytglpnbcockancaa.Q
open Go.RowKit Go.Proofs.YtglpnbcockancaaW.PrintWords Go.Proofs.YtglpnbcockancaaW.PrintLast Go.Proofs.YtglpnbcockancaaW.PrintMore
attribute [local go_sem] max2_int min2_int max_two min_two max_three min_three max_four min_four   -- for this text's walks alone
set_option linter.unusedVariables false
set_option linter.unusedSimpArgs false

/-! ### examboardlaw53_state: function 23 -/
mutual
def examboardlaw53_state.l0 : Nat → List (S25) → List Int → Int → Int → Int → List Int → List (S25) → Option (Int × List Int × (List (S25)) × Bool)
 | 0, _, _, _, _, _, _, _ => none
 | k + 1, x0, x19, x20, x21, x416000, x416001, x416002 => if x21 < x20 then (if 0 ≤ x21 then (if x21 < (x19.length : Int) then (if x21 ≥ 30 then (examboardlaw53_state.j1 k x0 (rd x19 x21) x19 x20 x21 true x416000 x416001 x416002) else (examboardlaw53_state.j1 k x0 (rd x19 x21) x19 x20 x21 ((x0.length : Int) == 0) x416000 x416001 x416002)) else (none)) else (none)) else (some (x416000, x416001, x416002, true))
def examboardlaw53_state.j1 : Nat → List (S25) → Int → List Int → Int → Int → Bool → Int → List Int → List (S25) → Option (Int × List Int × (List (S25)) × Bool)
 | 0, _, _, _, _, _, _, _, _, _ => none
 | k + 1, x0, x9, x19, x20, x21, x32, x416000, x416001, x416002 => if x32 = true then (some (x416000, x416001, x416002, true)) else (if (x0.length : Int) = 0 then (none) else (if 0 ≤ (Int.tmod (wrap64 (x9)) (x0.length : Int)) then (if (Int.tmod (wrap64 (x9)) (x0.length : Int)) < (x0.length : Int) then ((upload_Receive.f k x416000 x416001 x416002 ((rd_T25 x0 (Int.tmod (wrap64 (x9)) (x0.length : Int))).f0) ((rd_T25 x0 (Int.tmod (wrap64 (x9)) (x0.length : Int))).f1) ((rd_T25 x0 (Int.tmod (wrap64 (x9)) (x0.length : Int))).f2) ((rd_T25 x0 (Int.tmod (wrap64 (x9)) (x0.length : Int))).f3)).bind fun bt418 => (if bt418.2.2.2 = 0 then (examboardlaw53_state.l0 k x0 x19 x20 (wrap64 (x21 + 1)) bt418.1 bt418.2.1 bt418.2.2.1) else (none))) else (none)) else (none)))
end
def examboardlaw53_state.f (k : Nat) (l0 : List (S25)) (l1 : List Int) : Option (Int × List Int × (List (S25)) × Bool) := (upload_New.f 5).bind fun bt407 => (if bt407.2.2.2 = 0 then (examboardlaw53_state.l0 k l0 l1 (l1.length : Int) 0 bt407.1 bt407.2.1 bt407.2.2.1) else (none))
theorem examboardlaw53_state.mono_l : ∀ k, (∀ y0 y1 y2 y3 y4 y5 y6, LeO (examboardlaw53_state.l0 k y0 y1 y2 y3 y4 y5 y6) (examboardlaw53_state.l0 (k + 1) y0 y1 y2 y3 y4 y5 y6)) ∧ (∀ y0 y1 y2 y3 y4 y5 y6 y7 y8, LeO (examboardlaw53_state.j1 k y0 y1 y2 y3 y4 y5 y6 y7 y8) (examboardlaw53_state.j1 (k + 1) y0 y1 y2 y3 y4 y5 y6 y7 y8))
 | 0 => ⟨fun _ _ _ _ _ _ _ r h => by simp [examboardlaw53_state.l0] at h, fun _ _ _ _ _ _ _ _ _ r h => by simp [examboardlaw53_state.j1] at h⟩
 | k + 1 => by
  obtain ⟨ih0, ih1⟩ := examboardlaw53_state.mono_l k
  refine ⟨?_, ?_⟩
  ·
   intro y0 y1 y2 y3 y4 y5 y6
   unfold examboardlaw53_state.l0
   repeat' first
   | (with_reducible exact ih0 _ _ _ _ _ _ _)
   | (with_reducible exact ih1 _ _ _ _ _ _ _ _ _)
   | (with_reducible exact upload_Receive.mono _ _ _ _ _ _ _ _)
   | (with_reducible exact LeO.refl _)
   | (with_reducible exact LeO.none _)
   | (with_reducible refine LeO.ite ?_ ?_)
   | (with_reducible refine LeO.bind ?_ (fun _ => ?_))
   | exact ih0 _ _ _ _ _ _ _
   | exact ih1 _ _ _ _ _ _ _ _ _
   | exact upload_Receive.mono _ _ _ _ _ _ _ _
   | exact LeO.none _
   | refine LeO.ite ?_ ?_
   | refine LeO.bind ?_ (fun _ => ?_)
  ·
   intro y0 y1 y2 y3 y4 y5 y6 y7 y8
   unfold examboardlaw53_state.j1
   repeat' first
   | (with_reducible exact ih0 _ _ _ _ _ _ _)
   | (with_reducible exact ih1 _ _ _ _ _ _ _ _ _)
   | (with_reducible exact upload_Receive.mono _ _ _ _ _ _ _ _)
   | (with_reducible exact LeO.refl _)
   | (with_reducible exact LeO.none _)
   | (with_reducible refine LeO.ite ?_ ?_)
   | (with_reducible refine LeO.bind ?_ (fun _ => ?_))
   | exact ih0 _ _ _ _ _ _ _
   | exact ih1 _ _ _ _ _ _ _ _ _
   | exact upload_Receive.mono _ _ _ _ _ _ _ _
   | exact LeO.none _
   | refine LeO.ite ?_ ?_
   | refine LeO.bind ?_ (fun _ => ?_)
theorem examboardlaw53_state.mono : ∀ a0 a1 k, LeO (examboardlaw53_state.f k a0 a1) (examboardlaw53_state.f (k + 1) a0 a1) := by
 intro a0 a1 k
 obtain ⟨ih0, ih1⟩ := examboardlaw53_state.mono_l k
 unfold examboardlaw53_state.f
 repeat' first
   | (with_reducible exact ih0 _ _ _ _ _ _ _)
   | (with_reducible exact ih1 _ _ _ _ _ _ _ _ _)
   | (with_reducible exact upload_Receive.mono _ _ _ _ _ _ _ _)
   | (with_reducible exact LeO.refl _)
   | (with_reducible exact LeO.none _)
   | (with_reducible refine LeO.ite ?_ ?_)
   | (with_reducible refine LeO.bind ?_ (fun _ => ?_))
   | exact ih0 _ _ _ _ _ _ _
   | exact ih1 _ _ _ _ _ _ _ _ _
   | exact upload_Receive.mono _ _ _ _ _ _ _ _
   | exact LeO.none _
   | refine LeO.ite ?_ ?_
   | refine LeO.bind ?_ (fun _ => ?_)
def examboardlaw53_state.T8 : Bool × List (List Nat × List Nat) := (true, [([], []), ([], []), ([], []), ([2], [2]), ([], []), ([4], [4]), ([3, 5], [3, 5]), ([1, 6], [1, 6]), ([7], [7]), ([0, 8], [0, 8]), ([9], [9]), ([10], [10]), ([10], [10]), ([], []), ([13, 11, 9, 0, 1, 2, 3, 4, 5, 6, 7, 8, 9, 10, 11, 13], [11, 13]), ([12, 14, 0, 1, 2, 3, 4, 5, 6, 7, 8, 9, 10, 11, 12, 13, 14], [12])])
def examboardlaw53_state.B8 : List Nat := [0, 0, 0, 4, 0, 16, 60, 126, 254, 511, 1023, 2047, 2047, 0, 12287, 32767]
theorem examboardlaw53_state.tab8 : rtab .any (opsOf Try.f23 8) = examboardlaw53_state.T8 := by kernel_rfl
theorem examboardlaw53_state.bits8 : waitsOk examboardlaw53_state.T8.2 examboardlaw53_state.B8 = true := by kernel_rfl
set_option maxHeartbeats 8000000 in
set_option maxRecDepth 100000 in
theorem examboardlaw53_state.calls (k : Nat) (A0 : Option Addr) (c0 : Nat) (l0 : List (S25)) (A1 : Option Addr) (c1 : Nat) (l1 : List Int) (r1 : Int) (r2 : List Int) (r3 : List (S25)) (r4 : Bool) (w : World) (hr0 : Kd.C k25 w A0 l0.length l0) (hc0 : l0.length ≤ c0) (hr1 : Kd.C (Kd.int .u8) w A1 l1.length l1) (hc1 : l1.length ≤ c1) (h : examboardlaw53_state.f k l0 l1 = some (r1, r2, r3, r4)) :
  Calls Try.prog 23 #[.slice A0 l0.length c0, .slice A1 l1.length c1] w fun e w' => ∃ v1_ v2_ : Value, e = .returned (.tuple #[.agg #[.int .i64 r1, v1_, v2_], .bool r4]) ∧ Kd.R (Kd.int .u8) 5 w' w.heap.size (fun _ => True) v1_ r2 ∧ Kd.S k25 25 w' w.heap.size (fun k_ => some k_ ≠ (v1_ : Value).ownBlock) v2_ r3 ∧ Below w.heap.size w w' := by
 have hu34 := Try.underlying34
 have hu25 := Try.underlying25
 have HR0 := am hr0
 have HC0 := am hc0
 clear hr0 hc0
 have HR1 := am hr1
 have HC1 := am hc1
 clear hr1 hc1
 have HB := am (Below.refl w.heap.size w)
 have H : ((upload_New.f 5).bind fun bt407 => (if bt407.2.2.2 = 0 then (examboardlaw53_state.l0 k l0 l1 (l1.length : Int) 0 bt407.1 bt407.2.1 bt407.2.2.1) else (none))) = some (r1, r2, r3, r4) := h
 clear h
 replace H := Option.bind_eq_some_iff.mp H
 obtain ⟨⟨t407, t408, t411, t414⟩, A30, H⟩ := H
 replace H : (if t414 = 0 then (examboardlaw53_state.l0 k l0 l1 (l1.length : Int) 0 t407 t408 t411) else (none)) = some (r1, r2, r3, r4) := H
 have A3 := am A30
 clear A30
 replace H := it_ H
 obtain ⟨c4, H⟩ := H
 have c4b0 : (t414 == 0) = true := beq_iff_eq.mpr c4
 have c4b1 : (t414 != 0) = false := bne_eq_false_iff_eq.mpr c4
 clear c4
 have H' := am H
 clear H
 go_enter Try.func23, Try.ntmps23
 go_wp2_with (first | ((with_reducible refine gate_dst (N := 4) rfl ?_); (try (refine gate_guard (by rfl) ?_; dsimp only)); refine box_event ?hg (N := 4) ?hd (cs := #[.int .i64 0, .slice none 0 0, .slice none 0 0]) (t := 34) ?hr ?_; (case hd => rfl); (case hg => rfl); (case hr => exact gz); intro gb406 hg w5 hbox hb; have BK406 := am (hbox); have GW406 := am ((bs hg (hz HB.out) : w.heap.size ≤ gb406)); have GE406 := am ((bs hg (hz HB.out) : w.heap.size ≤ gb406)); replace HB := am (below_step (hz HB.out) hb); clear hb hbox hg) | ((with_reducible refine gate_callee (f := 14) rfl ?_); refine goesL_ (some 13) rfl rfl Try.func14 (by kernel_rfl) rfl #[.int .i64 5] rfl lz ?_; (with_reducible refine (upload_New.calls 5 t407 t408 t411 t414 _ A3.out).mono ?_); rintro e w6 ⟨v409, v412, rfl, ho0, ho1, hb⟩; refine ⟨_, rfl, ?_⟩; have HO410 := am (Kd.R_lower ho0 (below_size (hz1 HB.out GE406.out))); have HO413 := am (Kd.S_lower ho1 (below_size (hz1 HB.out GE406.out))); replace BK406 := am (blk_below (bz BK406.out) hb); replace HB := am (below_step (hz1 HB.out GE406.out) hb); (try clear hb); (try clear hb2); (try clear hk); (try clear hi); (try clear ho0); (try clear ho1)) | ((with_reducible refine gate_dst (N := 6) rfl ?_); (try (refine gate_guard (by rfl) ?_; dsimp only)); refine box_event ?hg (N := 6) ?hd (cs := #[.int .i64 0, .slice none 0 0, .slice none 0 0]) (t := 34) ?hr ?_; (case hd => rfl); (case hg => rfl); (case hr => exact gz); intro gb415 hg w7 hbox hb; replace HO410 := am (Kd.R_below (rz HO410.out) hb); replace HO413 := am (Kd.S_below (sz HO413.out) hb); have BK415 := am (hbox); have GW415 := am ((bs hg (hz1 HB.out GE406.out) : w.heap.size ≤ gb415)); have GE415 := am ((bs hg (hz1 HB.out GE406.out) : w.heap.size ≤ gb415)); replace HB := am (below_step (hz1 HB.out GE406.out) hb); have NB406_415 := am ((nl hg (bz BK406.out) : gb406 ≠ gb415)); have NB415_406 := am ((ng hg (bz BK406.out) : gb415 ≠ gb406)); replace BK406 := am (blk_below (bz BK406.out) hb); clear hb hbox hg; have hnb8 := NB415_406.out; have hnc8 := NB406_415.out; obtain ⟨hcz9_0, hcz9_1, hcz9_2⟩ := cs3 BK415.out; obtain ⟨hfz9_0, hfz9_1, hfz9_2⟩ := fs3 BK415.out; obtain ⟨Ao10, co10, eo10⟩ := Kd.R_slice HO410.out; subst eo10; obtain ⟨Ao11, co11, eo11⟩ := Kd.S_slice HO413.out; subst eo11))
 go_loopg [21] k (fun kq v21 w' => ∃ (x21_1 : Int) (x407000_1 : Int) (x416000_1 : Int) (x416001_1 : List Int) (x416002_1 : List (S25)) (u416001 : Value) (u416002 : Value), v21 = .int .i64 x21_1 ∧ Aside0 (examboardlaw53_state.l0 kq l0 l1 (l1.length : Int) x21_1 x416000_1 x416001_1 x416002_1 = some (r1, r2, r3, r4)) ∧ Aside0 (kq ≤ k) ∧ Aside0 (Kd.R (Kd.int .u8) 5 w' w.heap.size (fun _ => True) u416001 x416001_1) ∧ Aside0 (Kd.S k25 25 w' w.heap.size (fun k_ => some k_ ≠ (u416001 : Value).ownBlock) u416002 x416002_1) ∧ Aside0 (w'.heap[gb406]? = some (.cells #[.int .i64 x407000_1, (.slice none 0 0), (.slice none 0 0)] 34 (0, 0))) ∧ Aside0 (w'.heap[gb415]? = some (.cells #[.int .i64 x416000_1, u416001, u416002] 34 (0, 0))) ∧ Aside0 (Below w.heap.size w w'))
 case atStart => exact ⟨(0), (0), (t407), (t408), (t411), (.slice Ao10 t408.length co10), (.slice Ao11 t411.length co11), (by first | rfl | (simp; done) | (simp [*]; done)), H', ⟨Nat.le_refl _⟩, ⟨by (with_reducible repeat (first | apply Kd.R_alloc | apply Kd.R_drewN | apply Kd.R_drew)); exact Kd.R_mono (rfg3 HO410.out BK415.out) (fun _ hk => trivial)⟩, ⟨by (with_reducible repeat (first | apply Kd.S_alloc | apply Kd.S_drewN | apply Kd.S_drew)); exact Kd.S_mono (sfg3 HO413.out BK415.out) (fun _ hk => hk.1)⟩, ⟨bf1 NB406_415.out BK406.out⟩, ⟨by (with_reducible repeat (first | refine blk_drewN ?_ _ | refine blk_drew ?_ | refine blk_alloc ?_ _)); refine blk_put (cs := #[.int .i64 t407, .slice Ao10 t408.length co10, .slice none 0 0]) ?_ 2 _ rfl; (with_reducible repeat (first | refine blk_drewN ?_ _ | refine blk_drew ?_ | refine blk_alloc ?_ _)); refine blk_put (cs := #[.int .i64 t407, .slice none 0 0, .slice none 0 0]) ?_ 1 _ rfl; (with_reducible repeat (first | refine blk_drewN ?_ _ | refine blk_drew ?_ | refine blk_alloc ?_ _)); refine blk_put (cs := #[.int .i64 0, .slice none 0 0, .slice none 0 0]) ?_ 0 _ rfl; (with_reducible repeat (first | refine blk_drewN ?_ _ | refine blk_drew ?_ | refine blk_alloc ?_ _)); exact BK415.out⟩, ⟨hz2 HB.out GE406.out GE415.out⟩⟩
 case round =>
  clear H'
  try clear c1
  try clear c2
  try clear p2
  try clear c4
  try clear c4b0
  try clear c4b1
  try clear c8
  try clear hcz9_0
  try clear hcz9_1
  try clear hcz9_2
  try clear hfz9_0
  try clear hfz9_1
  try clear hfz9_2
  obtain ⟨x21_1, x407000_1, x416000_1, x416001_1, x416002_1, u416001, u416002, rfl, HA, HK1, HO_416001, HO_416002, BK406, BK415, HB⟩ := hrel
  cases gk with
  | zero => exact absurd HA.out (by simp [examboardlaw53_state.l0])
  | succ k1 =>
   have H := HA.out
   clear HA
   simp only [examboardlaw53_state.l0] at H
   by_cases c12 : x21_1 < (l1.length : Int)
   ·
    rw [if_pos c12] at H
    have c12b0 : decide (x21_1 < (l1.length : Int)) = true := decide_eq_true c12
    clear c12
    replace H := it_ H
    obtain ⟨c13, H⟩ := H
    have c13b0 : decide (0 ≤ x21_1) = true := decide_eq_true c13
    clear c13
    replace H := it_ H
    obtain ⟨c14, H⟩ := H
    have c14b0 : decide (x21_1 < (l1.length : Int)) = true := decide_eq_true c14
    clear c14
    have HC15 := am H
    clear H
    have p416 : 0 ≤ (x21_1 : Int) := of_decide_eq_true az
    have q416 : x21_1 < (l1.length : Int) := of_decide_eq_true az
    obtain ⟨ad416, e416, hx416_0⟩ := Kd.at_int HR1.out x21_1 p416 q416
    cases e416
    replace hx416_0 := (HB.out.cell (World.block_lt_of_cell? w _ hx416_0)).trans hx416_0
    replace p416 := eq_true p416
    replace q416 := eq_true q416
    go_upto_region 7 with (fail)
    go_cut [32] (fun v32 wc => ∃ (kq : Nat) (x32_14 : Bool), v32 = .bool x32_14 ∧ Aside0 (examboardlaw53_state.j1 kq l0 (rd l1 x21_1) l1 (l1.length : Int) x21_1 x32_14 x416000_1 x416001_1 x416002_1 = some (r1, r2, r3, r4)) ∧ Aside0 (kq ≤ k1) ∧ Aside0 (Kd.R (Kd.int .u8) 5 wc w.heap.size (fun _ => True) u416001 x416001_1) ∧ Aside0 (Kd.S k25 25 wc w.heap.size (fun k_ => some k_ ≠ (u416001 : Value).ownBlock) u416002 x416002_1) ∧ Aside0 (wc.heap[gb406]? = some (.cells #[.int .i64 x407000_1, (.slice none 0 0), (.slice none 0 0)] 34 (0, 0))) ∧ Aside0 (wc.heap[gb415]? = some (.cells #[.int .i64 x416000_1, u416001, u416002] 34 (0, 0))) ∧ Aside0 (Below w.heap.size w wc))
    case first =>
     have H := HC15.out
     clear HC15
     by_cases c16 : x21_1 ≥ 30
     ·
      rw [if_pos c16] at H
      have c16b0 : decide (30 ≤ x21_1) = true := decide_eq_true c16
      clear c16
      (first | rw [c16b0] | (simp only [i64_w, i32_w]; rw [c16b0]) | skip)
      have H' := am H
      clear H
      go_wp2
      go_meet
      case rel => exact ⟨_, (true), (by first | rfl | (simp; done) | (simp [*]; done)), H', ⟨by have := HK1.out; first | omega | exact Nat.le_refl _⟩, ⟨by (with_reducible repeat (first | apply Kd.R_alloc | apply Kd.R_drewN | apply Kd.R_drew)); exact HO_416001.out⟩, ⟨by (with_reducible repeat (first | apply Kd.S_alloc | apply Kd.S_drewN | apply Kd.S_drew)); exact HO_416002.out⟩, ⟨by (with_reducible repeat (first | refine blk_drewN ?_ _ | refine blk_drew ?_ | refine blk_alloc ?_ _)); exact BK406.out⟩, ⟨by (with_reducible repeat (first | refine blk_drewN ?_ _ | refine blk_drew ?_ | refine blk_alloc ?_ _)); exact BK415.out⟩, ⟨hz2 HB.out GE406.out GE415.out⟩⟩
     ·
      rw [if_neg c16] at H
      have c16b0 : decide (30 ≤ x21_1) = false := decide_eq_false c16
      clear c16
      (first | rw [c16b0] | (simp only [i64_w, i32_w]; rw [c16b0]) | skip)
      have H' := am H
      clear H
      go_wp2
      go_meet
      case rel => exact ⟨_, (((l0.length : Int) == 0)), (by first | rfl | (simp; done) | (simp [*]; done)), H', ⟨by have := HK1.out; first | omega | exact Nat.le_refl _⟩, ⟨by (with_reducible repeat (first | apply Kd.R_alloc | apply Kd.R_drewN | apply Kd.R_drew)); exact HO_416001.out⟩, ⟨by (with_reducible repeat (first | apply Kd.S_alloc | apply Kd.S_drewN | apply Kd.S_drew)); exact HO_416002.out⟩, ⟨by (with_reducible repeat (first | refine blk_drewN ?_ _ | refine blk_drew ?_ | refine blk_alloc ?_ _)); exact BK406.out⟩, ⟨by (with_reducible repeat (first | refine blk_drewN ?_ _ | refine blk_drew ?_ | refine blk_alloc ?_ _)); exact BK415.out⟩, ⟨hz2 HB.out GE406.out GE415.out⟩⟩
    case rest =>
     clear HC15
     try clear c1
     try clear c2
     try clear p2
     try clear c4
     try clear c4b0
     try clear c4b1
     try clear p4
     try clear q4
     try clear hx4
     try clear c8
     try clear c12
     try clear c12b0
     try clear c13
     try clear c13b0
     try clear c14
     try clear c14b0
     try clear c16
     try clear c16b0
     try clear hcz9_0
     try clear hcz9_1
     try clear hcz9_2
     try clear hfz9_0
     try clear hfz9_1
     try clear hfz9_2
     try clear hx416_0
     try clear p2
     try clear p416
     try clear q416
     obtain ⟨kq, x32_14, rfl, HA, HJ14, HO_416001, HO_416002, BK406, BK415, HB⟩ := hcut
     cases kq with
     | zero => exact absurd HA.out (by simp [examboardlaw53_state.j1])
     | succ kj14 =>
      have H := HA.out
      clear HA
      simp only [examboardlaw53_state.j1] at H
      by_cases c17 : x32_14 = true
      ·
       subst c17
       have H1 : (some (x416000_1, x416001_1, x416002_1, true)) = some (r1, r2, r3, r4) := by rw [if_pos rfl] at H; exact H
       clear H
       have H := H1
       clear H1
       simp only [Option.some.injEq, Prod.mk.injEq] at H
       obtain ⟨rfl, rfl, rfl, rfl⟩ := H
       have hnb18 := NB415_406.out
       have hnc18 := NB406_415.out
       have hcz19_0 : wc.cell? ⟨gb415, 0, none⟩ = some (.int .i64 x416000_1) := (blk_cell BK415.out 0).trans rfl
       have hcz19_1 : wc.cell? ⟨gb415, 1, none⟩ = some (u416001) := (blk_cell BK415.out 1).trans rfl
       have hcz19_2 : wc.cell? ⟨gb415, 2, none⟩ = some (u416002) := (blk_cell BK415.out 2).trans rfl
       have hfz19_0 := blk_frozen BK415.out 0
       have hfz19_1 := blk_frozen BK415.out 1
       have hfz19_2 := blk_frozen BK415.out 2
       have hcz20_0 : wc.cell? ⟨gb406, 0, none⟩ = some (.int .i64 x407000_1) := (blk_cell BK406.out 0).trans rfl
       have hcz20_1 : wc.cell? ⟨gb406, 1, none⟩ = some (.slice none 0 0) := (blk_cell BK406.out 1).trans rfl
       have hcz20_2 : wc.cell? ⟨gb406, 2, none⟩ = some (.slice none 0 0) := (blk_cell BK406.out 2).trans rfl
       have hfz20_0 := blk_frozen BK406.out 0
       have hfz20_1 := blk_frozen BK406.out 1
       have hfz20_2 := blk_frozen BK406.out 2
       obtain ⟨Ao21, co21, eo21⟩ := Kd.R_slice HO_416001.out
       subst eo21
       obtain ⟨Ao22, co22, eo22⟩ := Kd.S_slice HO_416002.out
       subst eo22
       go_wp2
       refine bodyPost_ret (results_ct rfl _ _ gb406 34 #[.int .i64 x416000_1, .slice Ao21 x416001_1.length co21, .slice Ao22 x416002_1.length co22] (0, 0) _ rfl (by (with_reducible repeat (first | refine blk_drewN ?_ _ | refine blk_drew ?_ | refine blk_alloc ?_ _)); refine blk_put (cs := #[.int .i64 x416000_1, .slice Ao21 x416001_1.length co21, .slice none 0 0]) ?_ 2 _ rfl; (with_reducible repeat (first | refine blk_drewN ?_ _ | refine blk_drew ?_ | refine blk_alloc ?_ _)); refine blk_put (cs := #[.int .i64 x416000_1, .slice none 0 0, .slice none 0 0]) ?_ 1 _ rfl; (with_reducible repeat (first | refine blk_drewN ?_ _ | refine blk_drew ?_ | refine blk_alloc ?_ _)); refine blk_put (cs := #[.int .i64 x407000_1, .slice none 0 0, .slice none 0 0]) ?_ 0 _ rfl; (with_reducible repeat (first | refine blk_drewN ?_ _ | refine blk_drew ?_ | refine blk_alloc ?_ _)); exact BK406.out) Try.underlying34 rfl (by kernel_rfl)) rfl ?_
       exact ⟨_, _, by first | rfl | (simp [errW_none, errW_some] <;> rfl) | (simp [*, errW_none, errW_some] <;> rfl), by (with_reducible repeat (first | apply Kd.R_alloc | apply Kd.R_drewN | apply Kd.R_drew)); exact Kd.R_mono (rfg3 HO_416001.out BK406.out) (fun _ hk => trivial), by (with_reducible repeat (first | apply Kd.S_alloc | apply Kd.S_drewN | apply Kd.S_drew)); exact Kd.S_mono (sfg3 HO_416002.out BK406.out) (fun _ hk => hk.1), hz2 HB.out GE406.out GE415.out⟩
      ·
       replace c17 := Bool.eq_false_iff.mpr c17
       subst c17
       have H1 : (if (l0.length : Int) = 0 then (none) else (if 0 ≤ (Int.tmod (wrap64 ((rd l1 x21_1))) (l0.length : Int)) then (if (Int.tmod (wrap64 ((rd l1 x21_1))) (l0.length : Int)) < (l0.length : Int) then ((upload_Receive.f kj14 x416000_1 x416001_1 x416002_1 ((rd_T25 l0 (Int.tmod (wrap64 ((rd l1 x21_1))) (l0.length : Int))).f0) ((rd_T25 l0 (Int.tmod (wrap64 ((rd l1 x21_1))) (l0.length : Int))).f1) ((rd_T25 l0 (Int.tmod (wrap64 ((rd l1 x21_1))) (l0.length : Int))).f2) ((rd_T25 l0 (Int.tmod (wrap64 ((rd l1 x21_1))) (l0.length : Int))).f3)).bind fun bt418 => (if bt418.2.2.2 = 0 then (examboardlaw53_state.l0 kj14 l0 l1 (l1.length : Int) (wrap64 (x21_1 + 1)) bt418.1 bt418.2.1 bt418.2.2.1) else (none))) else (none)) else (none))) = some (r1, r2, r3, r4) := by rw [if_neg (show ¬ (false = true) by decide)] at H; exact H
       clear H
       have H := H1
       clear H1
       replace H := ie_ H
       obtain ⟨c23, H⟩ := H
       have c23b0 : ((l0.length : Int) == 0) = false := beq_eq_false_iff_ne.mpr c23
       have c23b1 : ((l0.length : Int) != 0) = true := bne_iff_ne.mpr c23
       have c23b2 : ¬ (l0 = []) := fun h_ => c23 (by rw [h_]; rfl)
       obtain ⟨ji24, hji24⟩ : ∃ j_ : Int, (Int.tmod (wrap64 ((rd l1 x21_1))) (l0.length : Int)) = j_ := ⟨_, rfl⟩
       replace H : (if 0 ≤ (ji24) then (if (ji24) < (l0.length : Int) then ((upload_Receive.f kj14 x416000_1 x416001_1 x416002_1 ((rd_T25 l0 (ji24)).f0) ((rd_T25 l0 (ji24)).f1) ((rd_T25 l0 (ji24)).f2) ((rd_T25 l0 (ji24)).f3)).bind fun bt418 => (if bt418.2.2.2 = 0 then (examboardlaw53_state.l0 kj14 l0 l1 (l1.length : Int) (wrap64 (x21_1 + 1)) bt418.1 bt418.2.1 bt418.2.2.1) else (none))) else (none)) else (none)) = some (r1, r2, r3, r4) := by first | (rw [hji24] at H; exact H) | (simp only [hji24] at H ⊢; exact H)
       replace H := it_ H
       obtain ⟨c25, H⟩ := H
       have c25b0 : decide (0 ≤ (ji24)) = true := decide_eq_true c25
       clear c25
       replace H := it_ H
       obtain ⟨c26, H⟩ := H
       have c26b0 : decide ((ji24) < (l0.length : Int)) = true := decide_eq_true c26
       clear c26
       replace H := Option.bind_eq_some_iff.mp H
       obtain ⟨⟨t418, t419, t422, t425⟩, A270, H⟩ := H
       replace H : (if t425 = 0 then (examboardlaw53_state.l0 kj14 l0 l1 (l1.length : Int) (wrap64 (x21_1 + 1)) t418 t419 t422) else (none)) = some (r1, r2, r3, r4) := H
       have A27 := am A270
       clear A270
       replace H := it_ H
       obtain ⟨c28, H⟩ := H
       have c28b0 : (t425 == 0) = true := beq_iff_eq.mpr c28
       have c28b1 : (t425 != 0) = false := bne_eq_false_iff_eq.mpr c28
       clear c28
       have H' := am H
       clear H
       obtain ⟨Ao29, co29, eo29⟩ := Kd.R_slice HO_416001.out
       subst eo29
       obtain ⟨Ao30, co30, eo30⟩ := Kd.S_slice HO_416002.out
       subst eo30
       try go_wp2
       replace HO_416001 := am (Kd.R_drew HO_416001.out)
       replace HO_416002 := am (Kd.S_drew HO_416002.out)
       replace BK406 := am (blk_drew BK406.out)
       replace BK415 := am (blk_drew BK415.out)
       replace HB := am (below_drew1 HB.out)
       have p417 : 0 ≤ ((ji24) : Int) := of_decide_eq_true az
       have q417 : (ji24) < (l0.length : Int) := of_decide_eq_true az
       obtain ⟨ad417, A417_2, c417_2, e417, hx417_0, hx417_1, hx417_2, hx417_3, hl417_2, hi417_2⟩ := at_T25 HR0.out (ji24) p417 q417
       have hw417_3 := hx417_3
       have hw417_2 := hx417_2
       have hw417_1 := hx417_1
       have hw417_0 := hx417_0
       cases e417
       replace hx417_0 := (HB.out.cell (World.block_lt_of_cell? w _ hx417_0)).trans hx417_0
       replace hx417_1 := (HB.out.cell (World.block_lt_of_cell? w _ hx417_1)).trans hx417_1
       replace hx417_2 := (HB.out.cell (World.block_lt_of_cell? w _ hx417_2)).trans hx417_2
       replace hx417_3 := (HB.out.cell (World.block_lt_of_cell? w _ hx417_3)).trans hx417_3
       have HR417_2 := am hi417_2
       have HC417_2 := am hl417_2
       clear hi417_2 hl417_2
       replace p417 := eq_true p417
       replace q417 := eq_true q417
       refine start_ (n := 16) (S := fun w' => w'.cell? ⟨gb415, 0, none⟩ = some (.int .i64 x416000_1) ∧ w'.cell? ⟨gb415, 1, none⟩ = some (.slice Ao29 x416001_1.length co29) ∧ w'.cell? ⟨gb415, 2, none⟩ = some (.slice Ao30 x416002_1.length co30) ∧ w'.cell? (ad417.add (((ji24)).toNat * 4)) = some (.int .i64 ((rd_T25 l0 (ji24)).f0)) ∧ w'.cell? ⟨(ad417.add (((ji24)).toNat * 4)).block, (ad417.add (((ji24)).toNat * 4)).off + 1, none⟩ = some (.int .i64 ((rd_T25 l0 (ji24)).f1)) ∧ w'.cell? ⟨(ad417.add (((ji24)).toNat * 4)).block, (ad417.add (((ji24)).toNat * 4)).off + 2, none⟩ = some (.slice A417_2 ((rd_T25 l0 (ji24)).f2).length c417_2) ∧ w'.cell? ⟨(ad417.add (((ji24)).toNat * 4)).block, (ad417.add (((ji24)).toNat * 4)).off + 3, none⟩ = some (.int .u64 ((rd_T25 l0 (ji24)).f3))) (ds := []) #[false, false, false, false, false, false, false, false, false, false, false, false, false, false, false, false] (by kernel_rfl) rfl rfl ⟨(blk_cell BK415.out 0).trans rfl, (blk_cell BK415.out 1).trans rfl, (blk_cell BK415.out 2).trans rfl, ((HB.out.cell (World.block_lt_of_cell? w _ hw417_0)).trans hw417_0), ((HB.out.cell (World.block_lt_of_cell? w _ hw417_1)).trans hw417_1), ((HB.out.cell (World.block_lt_of_cell? w _ hw417_2)).trans hw417_2), ((HB.out.cell (World.block_lt_of_cell? w _ hw417_3)).trans hw417_3)⟩ (fun hHeld => ?_); refine with_tabW examboardlaw53_state.tab8 examboardlaw53_state.bits8 (fun HT_ HW_ => ?_)
       generalize wc.drew = w31 at HO_416001 HO_416002 BK406 BK415 HB HR417_2 hx417_0 hx417_1 hx417_2 hx417_3 hHeld ⊢
       refine pz 1 35 HT_.out ?_
       refine pz 2 36 HT_.out ?_
       refine pz 3 37 HT_.out ?_
       refine pz 4 38 HT_.out ?_
       refine pz 5 39 HT_.out ?_
       refine pz 6 40 HT_.out ?_
       refine pz 7 41 HT_.out ?_
       refine tz7 0 34 HT_.out HW_.out hHeld ?_
       refine tz7 8 42 HT_.out HW_.out hHeld ?_
       refine join_ (σ := Value × Value × Nat) 2 #[true, true, true, true, true, true, true, true, true, true, true, true, true, true, false, false] (fun s_ => [(43, .tuple #[.agg #[.int .i64 t418, s_.1, s_.2.1], .int .i64 t425]), (10, .pointer (some ⟨s_.2.2, 0, none⟩)), (33, .tuple #[.agg #[.int .i64 t418, s_.1, s_.2.1], .int .i64 t425]), (44, .agg #[.int .i64 t418, s_.1, s_.2.1]), (45, .int .i64 t425)]) (fun s_ w' => (w'.cell? ⟨gb415, 0, none⟩ = some (.int .i64 x416000_1) ∧ w'.cell? ⟨gb415, 1, none⟩ = some (.slice Ao29 x416001_1.length co29) ∧ w'.cell? ⟨gb415, 2, none⟩ = some (.slice Ao30 x416002_1.length co30) ∧ w'.cell? (ad417.add (((ji24)).toNat * 4)) = some (.int .i64 ((rd_T25 l0 (ji24)).f0)) ∧ w'.cell? ⟨(ad417.add (((ji24)).toNat * 4)).block, (ad417.add (((ji24)).toNat * 4)).off + 1, none⟩ = some (.int .i64 ((rd_T25 l0 (ji24)).f1)) ∧ w'.cell? ⟨(ad417.add (((ji24)).toNat * 4)).block, (ad417.add (((ji24)).toNat * 4)).off + 2, none⟩ = some (.slice A417_2 ((rd_T25 l0 (ji24)).f2).length c417_2) ∧ w'.cell? ⟨(ad417.add (((ji24)).toNat * 4)).block, (ad417.add (((ji24)).toNat * 4)).off + 3, none⟩ = some (.int .u64 ((rd_T25 l0 (ji24)).f3))) ∧ (Kd.R (Kd.int .u8) 5 w' w.heap.size (fun k_ => some k_ ≠ (.slice Ao29 x416001_1.length co29 : Value).ownBlock) s_.1 t419) ∧ (Kd.S k25 25 w' w.heap.size (fun k_ => some k_ ≠ (s_.1 : Value).ownBlock ∧ some k_ ≠ (.slice Ao29 x416001_1.length co29 : Value).ownBlock ∧ some k_ ≠ (.slice Ao30 x416002_1.length co30 : Value).ownBlock) s_.2.1 t422) ∧ (Kd.R (Kd.int .u8) 5 w' w.heap.size (fun k_ => some k_ ≠ (s_.1 : Value).ownBlock) (.slice Ao29 x416001_1.length co29) x416001_1) ∧ (Kd.S k25 25 w' w.heap.size (fun k_ => some k_ ≠ (s_.1 : Value).ownBlock ∧ some k_ ≠ (s_.2.1 : Value).ownBlock ∧ some k_ ≠ (.slice Ao29 x416001_1.length co29 : Value).ownBlock) (.slice Ao30 x416002_1.length co30) x416002_1) ∧ (w'.heap[gb406]? = some (.cells #[.int .i64 x407000_1, .slice none 0 0, .slice none 0 0] 34 (0, 0))) ∧ (w'.heap[gb415]? = some (.cells #[.int .i64 x416000_1, .slice Ao29 x416001_1.length co29, .slice Ao30 x416002_1.length co30] 34 (0, 0))) ∧ (w'.heap[s_.2.2]? = some (.cells #[.int .i64 0, .slice none 0 0, .slice none 0 0] 34 (0, 0))) ∧ (w.heap.size ≤ s_.2.2) ∧ (w.heap.size ≤ s_.2.2) ∧ (gb406 ≠ s_.2.2) ∧ (s_.2.2 ≠ gb406) ∧ (gb415 ≠ s_.2.2) ∧ (s_.2.2 ≠ gb415) ∧ (Below w.heap.size w w')) ?_ ?_
       rotate_left
       ·
        intro hCont
        refine two_ (i := 9) (j := 13) (Ni := some 43) (Nj := some 10) #[true, true, true, true, true, true, true, true, true, true, false, false, false, false, false, false] #[true, true, true, true, true, true, true, true, true, false, false, false, false, true, false, false] rfl rfl rfl rfl (two_of HT_.out (by kernel_rfl)) (by decide) (by decide) (fun K hK => ?_) (fun K hK => ?_)
        ·
         skip
         refine goes_ Try.func20 (by kernel_rfl) rfl #[.agg #[.int .i64 x416000_1, .slice Ao29 x416001_1.length co29, .slice Ao30 x416002_1.length co30], .agg #[.int .i64 ((rd_T25 l0 (ji24)).f0), .int .i64 ((rd_T25 l0 (ji24)).f1), .slice A417_2 ((rd_T25 l0 (ji24)).f2).length c417_2, .int .u64 ((rd_T25 l0 (ji24)).f3)]] (by rfl) rfl rfl (by (try simp only [List.map_toArray, List.map_cons, List.map_nil]); first | done | (simp only [hji24]; rfl) | rfl | (simp only [List.length_drop, List.length_take]; rfl)) ?_
         with_reducible refine (upload_Receive.calls kj14 x416000_1 _ _ x416001_1 _ _ x416002_1 ((rd_T25 l0 (ji24)).f0) ((rd_T25 l0 (ji24)).f1) _ _ ((rd_T25 l0 (ji24)).f2) ((rd_T25 l0 (ji24)).f3) t418 t419 t422 t425 _ ?side1 ?side2 ?side3 ?side4 ?side5 ?side6 A27.out).mono ?_
         (case side1 => repeat (first | exact (Kd.R_reads' HO_416001.out).2.2 | (with_reducible refine Kd.C_alloc ?_ _) | (with_reducible refine Kd.C_drewN ?_ _) | (with_reducible refine Kd.C_drew ?_)))
         (case side2 => exact (Kd.R_reads' HO_416001.out).2.1)
         (case side3 => repeat (first | exact (Kd.S_reads' HO_416002.out).2.2 | (with_reducible refine Kd.C_alloc ?_ _) | (with_reducible refine Kd.C_drewN ?_ _) | (with_reducible refine Kd.C_drew ?_)))
         (case side4 => exact (Kd.S_reads' HO_416002.out).2.1)
         (case side5 => exact cz (Kd.C_below HR417_2.out HB.out))
         (case side6 => exact HC417_2.out)
         rintro e w32 ⟨v420, v423, rfl, ho0, ho1, hb⟩
         refine ⟨_, rfl, ?_⟩
         have HO421 := am (Kd.R_lower (Kd.R_new' ho0 (Kd.R_lt (rz HO_416001.out))) (below_size (hz2 HB.out GE406.out GE415.out)))
         have HO424 := am (Kd.S_lower (Kd.S_new' (Kd.S_new' ho1 (Kd.R_lt (rz HO_416001.out))) (Kd.S_lt (sz HO_416002.out))) (below_size (hz2 HB.out GE406.out GE415.out)))
         replace HO_416001 := am (Kd.R_elder' (rz HO_416001.out) (Kd.R_base ho0) hb)
         replace HO_416002 := am (Kd.S_mono (Kd.S_told (Kd.S_told (Kd.S_old (sz HO_416002.out) hb) (Kd.R_base ho0)) (Kd.S_base ho1)) (fun _ h_ => h_.1))
         replace BK406 := am (blk_below (bz BK406.out) hb)
         replace BK415 := am (blk_below (bz BK415.out) hb)
         replace HB := am (below_step (hz2 HB.out GE406.out GE415.out) hb)
         (try clear hb)
         (try clear hb2)
         (try clear hk)
         (try clear hi)
         (try clear ho0)
         (try clear ho1)
         refine hK.out _ _ ⟨(blk_cell BK415.out 0).trans rfl, (blk_cell BK415.out 1).trans rfl, (blk_cell BK415.out 2).trans rfl, ((HB.out.cell (World.block_lt_of_cell? w _ hw417_0)).trans hw417_0), ((HB.out.cell (World.block_lt_of_cell? w _ hw417_1)).trans hw417_1), ((HB.out.cell (World.block_lt_of_cell? w _ hw417_2)).trans hw417_2), ((HB.out.cell (World.block_lt_of_cell? w _ hw417_3)).trans hw417_3)⟩ (fun hHeld => ?_)
         clear hK K
         refine norm_ (a' := ?_) ?_ ?_
         rotate_left
         ·
          show Act.put _ (some 43) _ = _
          simp only [Act.put, List.setIfInBounds_toArray, List.set_cons_zero, List.set_cons_succ, i64_w, i32_w]
          rfl
         refine pz 10 33 HT_.out ?_
         refine pz 11 44 HT_.out ?_
         refine pz 12 45 HT_.out ?_
         refine oz 13 10 HT_.out (fun K hK => ?_)
         refine box_step ?hg (N := 10) ?hd (cs := #[.int .i64 0, .slice none 0 0, .slice none 0 0]) (t := 34) ?hr ?_; (case hd => rfl); (case hg => rfl); (case hr => exact gz)
         intro gb426 hg w33 hbox hb
         replace HO_416001 := am (Kd.R_below (rz HO_416001.out) hb)
         replace HO_416002 := am (Kd.S_below (sz HO_416002.out) hb)
         replace HO421 := am (Kd.R_below (rz HO421.out) hb)
         replace HO424 := am (Kd.S_below (sz HO424.out) hb)
         have BK426 := am (hbox)
         have GW426 := am ((bs hg (hz2 HB.out GE406.out GE415.out) : w.heap.size ≤ gb426))
         have GE426 := am ((bs hg (hz2 HB.out GE406.out GE415.out) : w.heap.size ≤ gb426))
         replace HB := am (below_step (hz2 HB.out GE406.out GE415.out) hb)
         have NB406_426 := am ((nl hg (bz BK406.out) : gb406 ≠ gb426))
         have NB426_406 := am ((ng hg (bz BK406.out) : gb426 ≠ gb406))
         replace BK406 := am (blk_below (bz BK406.out) hb)
         have NB415_426 := am ((nl hg (bz BK415.out) : gb415 ≠ gb426))
         have NB426_415 := am ((ng hg (bz BK415.out) : gb426 ≠ gb415))
         replace BK415 := am (blk_below (bz BK415.out) hb)
         clear hb hbox hg
         refine hK.out _ _ ⟨(blk_cell BK415.out 0).trans rfl, (blk_cell BK415.out 1).trans rfl, (blk_cell BK415.out 2).trans rfl, ((HB.out.cell (World.block_lt_of_cell? w _ hw417_0)).trans hw417_0), ((HB.out.cell (World.block_lt_of_cell? w _ hw417_1)).trans hw417_1), ((HB.out.cell (World.block_lt_of_cell? w _ hw417_2)).trans hw417_2), ((HB.out.cell (World.block_lt_of_cell? w _ hw417_3)).trans hw417_3)⟩ (fun hHeld => ?_)
         clear hK K
         refine norm_ (a' := ?_) ?_ ?_
         rotate_left
         ·
          show Act.put _ (some 10) _ = _
          simp only [Act.put, List.setIfInBounds_toArray, List.set_cons_zero, List.set_cons_succ, i64_w, i32_w]
          rfl
         exact norm_ (by simp only [putAll, Act.put, List.setIfInBounds_toArray, List.set_cons_zero, List.set_cons_succ]) (hCont (v420, v423, gb426) _ ⟨hHeld, (rz (Kd.R_mono HO421.out (fun _ hk => hk.2))), (sz (Kd.S_mono HO424.out (fun _ hk => ⟨hk.1.1, ⟨hk.1.2, hk.2⟩⟩))), (rz (Kd.R_mono HO_416001.out (fun _ hk => hk.2))), (sz (Kd.S_mono HO_416002.out (fun _ hk => ⟨hk.1.2, ⟨hk.2, hk.1.1⟩⟩))), (bz BK406.out), (bz BK415.out), (bz BK426.out), GW426.out, GE426.out, NB406_426.out, NB426_406.out, NB415_426.out, NB426_415.out, (hz3 HB.out GE406.out GE415.out GE426.out)⟩)
        ·
         skip
         refine box_step ?hg (N := 10) ?hd (cs := #[.int .i64 0, .slice none 0 0, .slice none 0 0]) (t := 34) ?hr ?_; (case hd => rfl); (case hg => rfl); (case hr => exact gz)
         intro gb426 hg w32 hbox hb
         replace HO_416001 := am (Kd.R_below (rz HO_416001.out) hb)
         replace HO_416002 := am (Kd.S_below (sz HO_416002.out) hb)
         have BK426 := am (hbox)
         have GW426 := am ((bs hg (hz2 HB.out GE406.out GE415.out) : w.heap.size ≤ gb426))
         have GE426 := am ((bs hg (hz2 HB.out GE406.out GE415.out) : w.heap.size ≤ gb426))
         replace HB := am (below_step (hz2 HB.out GE406.out GE415.out) hb)
         have NB406_426 := am ((nl hg (bz BK406.out) : gb406 ≠ gb426))
         have NB426_406 := am ((ng hg (bz BK406.out) : gb426 ≠ gb406))
         replace BK406 := am (blk_below (bz BK406.out) hb)
         have NB415_426 := am ((nl hg (bz BK415.out) : gb415 ≠ gb426))
         have NB426_415 := am ((ng hg (bz BK415.out) : gb426 ≠ gb415))
         replace BK415 := am (blk_below (bz BK415.out) hb)
         clear hb hbox hg
         refine hK.out _ _ ⟨(blk_cell BK415.out 0).trans rfl, (blk_cell BK415.out 1).trans rfl, (blk_cell BK415.out 2).trans rfl, ((HB.out.cell (World.block_lt_of_cell? w _ hw417_0)).trans hw417_0), ((HB.out.cell (World.block_lt_of_cell? w _ hw417_1)).trans hw417_1), ((HB.out.cell (World.block_lt_of_cell? w _ hw417_2)).trans hw417_2), ((HB.out.cell (World.block_lt_of_cell? w _ hw417_3)).trans hw417_3)⟩ (fun hHeld => ?_)
         clear hK K
         refine norm_ (a' := ?_) ?_ ?_
         rotate_left
         ·
          show Act.put _ (some 10) _ = _
          simp only [Act.put, List.setIfInBounds_toArray, List.set_cons_zero, List.set_cons_succ, i64_w, i32_w]
          rfl
         refine oz 9 43 HT_.out (fun K hK => ?_)
         refine goes_ Try.func20 (by kernel_rfl) rfl #[.agg #[.int .i64 x416000_1, .slice Ao29 x416001_1.length co29, .slice Ao30 x416002_1.length co30], .agg #[.int .i64 ((rd_T25 l0 (ji24)).f0), .int .i64 ((rd_T25 l0 (ji24)).f1), .slice A417_2 ((rd_T25 l0 (ji24)).f2).length c417_2, .int .u64 ((rd_T25 l0 (ji24)).f3)]] (by rfl) rfl rfl (by (try simp only [List.map_toArray, List.map_cons, List.map_nil]); first | done | (simp only [hji24]; rfl) | rfl | (simp only [List.length_drop, List.length_take]; rfl)) ?_
         with_reducible refine (upload_Receive.calls kj14 x416000_1 _ _ x416001_1 _ _ x416002_1 ((rd_T25 l0 (ji24)).f0) ((rd_T25 l0 (ji24)).f1) _ _ ((rd_T25 l0 (ji24)).f2) ((rd_T25 l0 (ji24)).f3) t418 t419 t422 t425 _ ?side1 ?side2 ?side3 ?side4 ?side5 ?side6 A27.out).mono ?_
         (case side1 => repeat (first | exact (Kd.R_reads' HO_416001.out).2.2 | (with_reducible refine Kd.C_alloc ?_ _) | (with_reducible refine Kd.C_drewN ?_ _) | (with_reducible refine Kd.C_drew ?_)))
         (case side2 => exact (Kd.R_reads' HO_416001.out).2.1)
         (case side3 => repeat (first | exact (Kd.S_reads' HO_416002.out).2.2 | (with_reducible refine Kd.C_alloc ?_ _) | (with_reducible refine Kd.C_drewN ?_ _) | (with_reducible refine Kd.C_drew ?_)))
         (case side4 => exact (Kd.S_reads' HO_416002.out).2.1)
         (case side5 => exact cz (Kd.C_below HR417_2.out HB.out))
         (case side6 => exact HC417_2.out)
         rintro e w33 ⟨v420, v423, rfl, ho0, ho1, hb⟩
         refine ⟨_, rfl, ?_⟩
         have HO421 := am (Kd.R_lower (Kd.R_new' ho0 (Kd.R_lt (rz HO_416001.out))) (below_size (hz3 HB.out GE406.out GE415.out GE426.out)))
         have HO424 := am (Kd.S_lower (Kd.S_new' (Kd.S_new' ho1 (Kd.R_lt (rz HO_416001.out))) (Kd.S_lt (sz HO_416002.out))) (below_size (hz3 HB.out GE406.out GE415.out GE426.out)))
         replace HO_416001 := am (Kd.R_elder' (rz HO_416001.out) (Kd.R_base ho0) hb)
         replace HO_416002 := am (Kd.S_mono (Kd.S_told (Kd.S_told (Kd.S_old (sz HO_416002.out) hb) (Kd.R_base ho0)) (Kd.S_base ho1)) (fun _ h_ => h_.1))
         replace BK406 := am (blk_below (bz BK406.out) hb)
         replace BK415 := am (blk_below (bz BK415.out) hb)
         replace BK426 := am (blk_below (bz BK426.out) hb)
         replace HB := am (below_step (hz3 HB.out GE406.out GE415.out GE426.out) hb)
         (try clear hb)
         (try clear hb2)
         (try clear hk)
         (try clear hi)
         (try clear ho0)
         (try clear ho1)
         refine hK.out _ _ ⟨(blk_cell BK415.out 0).trans rfl, (blk_cell BK415.out 1).trans rfl, (blk_cell BK415.out 2).trans rfl, ((HB.out.cell (World.block_lt_of_cell? w _ hw417_0)).trans hw417_0), ((HB.out.cell (World.block_lt_of_cell? w _ hw417_1)).trans hw417_1), ((HB.out.cell (World.block_lt_of_cell? w _ hw417_2)).trans hw417_2), ((HB.out.cell (World.block_lt_of_cell? w _ hw417_3)).trans hw417_3)⟩ (fun hHeld => ?_)
         clear hK K
         refine norm_ (a' := ?_) ?_ ?_
         rotate_left
         ·
          show Act.put _ (some 43) _ = _
          simp only [Act.put, List.setIfInBounds_toArray, List.set_cons_zero, List.set_cons_succ, i64_w, i32_w]
          rfl
         refine pz 10 33 HT_.out ?_
         refine pz 11 44 HT_.out ?_
         refine pz 12 45 HT_.out ?_
         exact norm_ (by simp only [putAll, Act.put, List.setIfInBounds_toArray, List.set_cons_zero, List.set_cons_succ]) (hCont (v420, v423, gb426) _ ⟨hHeld, (rz (Kd.R_mono HO421.out (fun _ hk => hk.2))), (sz (Kd.S_mono HO424.out (fun _ hk => ⟨hk.1.1, ⟨hk.1.2, hk.2⟩⟩))), (rz (Kd.R_mono HO_416001.out (fun _ hk => hk.2))), (sz (Kd.S_mono HO_416002.out (fun _ hk => ⟨hk.1.2, ⟨hk.2, hk.1.1⟩⟩))), (bz BK406.out), (bz BK415.out), (bz BK426.out), GW426.out, GE426.out, NB406_426.out, NB426_406.out, NB415_426.out, NB426_415.out, (hz3 HB.out GE406.out GE415.out GE426.out)⟩)
       rintro ⟨v420, v423, gb426⟩ w34 ⟨hS_, h0_, h1_, h2_, h3_, h4_, h5_, h6_, h7_, h8_, h9_, h10_, h11_, h12_, h13_⟩
       have n0_ : Aside0 (Kd.R (Kd.int .u8) 5 w34 w.heap.size (fun k_ => some k_ ≠ (.slice Ao29 x416001_1.length co29 : Value).ownBlock) v420 t419) := ⟨h0_⟩
       have n1_ : Aside0 (Kd.S k25 25 w34 w.heap.size (fun k_ => some k_ ≠ (v420 : Value).ownBlock ∧ some k_ ≠ (.slice Ao29 x416001_1.length co29 : Value).ownBlock ∧ some k_ ≠ (.slice Ao30 x416002_1.length co30 : Value).ownBlock) v423 t422) := ⟨h1_⟩
       have n2_ : Aside0 (Kd.R (Kd.int .u8) 5 w34 w.heap.size (fun k_ => some k_ ≠ (v420 : Value).ownBlock) (.slice Ao29 x416001_1.length co29) x416001_1) := ⟨h2_⟩
       have n3_ : Aside0 (Kd.S k25 25 w34 w.heap.size (fun k_ => some k_ ≠ (v420 : Value).ownBlock ∧ some k_ ≠ (v423 : Value).ownBlock ∧ some k_ ≠ (.slice Ao29 x416001_1.length co29 : Value).ownBlock) (.slice Ao30 x416002_1.length co30) x416002_1) := ⟨h3_⟩
       have n4_ : Aside0 (w34.heap[gb406]? = some (.cells #[.int .i64 x407000_1, .slice none 0 0, .slice none 0 0] 34 (0, 0))) := ⟨h4_⟩
       have n5_ : Aside0 (w34.heap[gb415]? = some (.cells #[.int .i64 x416000_1, .slice Ao29 x416001_1.length co29, .slice Ao30 x416002_1.length co30] 34 (0, 0))) := ⟨h5_⟩
       have n6_ : Aside0 (w34.heap[gb426]? = some (.cells #[.int .i64 0, .slice none 0 0, .slice none 0 0] 34 (0, 0))) := ⟨h6_⟩
       have n7_ : Aside0 (w.heap.size ≤ gb426) := ⟨h7_⟩
       have n8_ : Aside0 (w.heap.size ≤ gb426) := ⟨h8_⟩
       have n9_ : Aside0 (gb406 ≠ gb426) := ⟨h9_⟩
       have n10_ : Aside0 (gb426 ≠ gb406) := ⟨h10_⟩
       have n11_ : Aside0 (gb415 ≠ gb426) := ⟨h11_⟩
       have n12_ : Aside0 (gb426 ≠ gb415) := ⟨h12_⟩
       have n13_ : Aside0 (Below w.heap.size w w34) := ⟨h13_⟩
       clear HO_416001
       clear HO_416002
       clear BK406
       clear BK415
       clear HB
       clear h0_ h1_ h2_ h3_ h4_ h5_ h6_ h7_ h8_ h9_ h10_ h11_ h12_ h13_
       have HO421 := n0_
       have HO424 := n1_
       have HO_416001 := n2_
       have HO_416002 := n3_
       have BK406 := n4_
       have BK415 := n5_
       have BK426 := n6_
       have GW426 := n7_
       have GE426 := n8_
       have NB406_426 := n9_
       have NB426_406 := n10_
       have NB415_426 := n11_
       have NB426_415 := n12_
       have HB := n13_
       clear n0_ n1_ n2_ n3_ n4_ n5_ n6_ n7_ n8_ n9_ n10_ n11_ n12_ n13_
       have hHeld : w34.cell? ⟨gb415, 0, none⟩ = some (.int .i64 x416000_1) ∧ w34.cell? ⟨gb415, 1, none⟩ = some (.slice Ao29 x416001_1.length co29) ∧ w34.cell? ⟨gb415, 2, none⟩ = some (.slice Ao30 x416002_1.length co30) ∧ w34.cell? (ad417.add (((ji24)).toNat * 4)) = some (.int .i64 ((rd_T25 l0 (ji24)).f0)) ∧ w34.cell? ⟨(ad417.add (((ji24)).toNat * 4)).block, (ad417.add (((ji24)).toNat * 4)).off + 1, none⟩ = some (.int .i64 ((rd_T25 l0 (ji24)).f1)) ∧ w34.cell? ⟨(ad417.add (((ji24)).toNat * 4)).block, (ad417.add (((ji24)).toNat * 4)).off + 2, none⟩ = some (.slice A417_2 ((rd_T25 l0 (ji24)).f2).length c417_2) ∧ w34.cell? ⟨(ad417.add (((ji24)).toNat * 4)).block, (ad417.add (((ji24)).toNat * 4)).off + 3, none⟩ = some (.int .u64 ((rd_T25 l0 (ji24)).f3)) := hS_
       obtain ⟨Ao36, co36, eo36⟩ := Kd.R_slice HO421.out
       (first | subst eo36 | (injection eo36 with f1_ f2_ f3_; have f4_ := f1_.symm; have f5_ := f3_.symm; clear f1_ f2_ f3_; subst f4_; subst f5_))
       obtain ⟨Ao38, co38, eo38⟩ := Kd.S_slice HO424.out
       (first | subst eo38 | (injection eo38 with f1_ f2_ f3_; have f4_ := f1_.symm; have f5_ := f3_.symm; clear f1_ f2_ f3_; subst f4_; subst f5_))
       refine norm_ (a' := ?_) ?_ ?_
       rotate_left
       ·
        simp only [putAll, Act.put, List.setIfInBounds_toArray, List.set_cons_zero, List.set_cons_succ]
        rfl
       refine one_ (i := 14) (N := none) #[true, true, true, true, true, true, true, true, true, true, true, true, true, true, true, false] rfl rfl (one_of HT_.out (by kernel_rfl)) (by decide) (fun K hK => ?_)
       have hs35 : w34.cell? ⟨gb426, 0, none⟩ = some (.int .i64 0) := (blk_cell BK426.out 0).trans rfl
       have hfs35 := blk_frozen BK426.out 0
       have hns35_0 := NB406_426.out
       have hns35_1 := NB415_426.out
       have hms35_0 := NB426_406.out
       have hms35_1 := NB426_415.out
       have hs37 : w34.cell? ⟨gb426, 1, none⟩ = some (.slice none 0 0) := (blk_cell BK426.out 1).trans rfl
       have hfs37 := blk_frozen BK426.out 1
       have hns37_0 := NB406_426.out
       have hns37_1 := NB415_426.out
       have hms37_0 := NB426_406.out
       have hms37_1 := NB426_415.out
       have hs39 : w34.cell? ⟨gb426, 2, none⟩ = some (.slice none 0 0) := (blk_cell BK426.out 2).trans rfl
       have hfs39 := blk_frozen BK426.out 2
       have hns39_0 := NB406_426.out
       have hns39_1 := NB415_426.out
       have hms39_0 := NB426_406.out
       have hms39_1 := NB426_415.out
       refine skip_ (w1 := ?_) (by rfl) rfl ?_ ?_
       rotate_left
       ·
        go_simp
        rfl
       refine hK.out _ _ ⟨((cell_far (p := ⟨gb426, _, none⟩) NB415_426.out _).trans (((cell_far (p := ⟨gb426, _, none⟩) NB415_426.out _).trans (((cell_far (p := ⟨gb426, _, none⟩) NB415_426.out _).trans (hHeld.1)))))), ((cell_far (p := ⟨gb426, _, none⟩) NB415_426.out _).trans (((cell_far (p := ⟨gb426, _, none⟩) NB415_426.out _).trans (((cell_far (p := ⟨gb426, _, none⟩) NB415_426.out _).trans (hHeld.2.1)))))), ((cell_far (p := ⟨gb426, _, none⟩) NB415_426.out _).trans (((cell_far (p := ⟨gb426, _, none⟩) NB415_426.out _).trans (((cell_far (p := ⟨gb426, _, none⟩) NB415_426.out _).trans (hHeld.2.2.1)))))), ((cell_far (p := ⟨gb426, _, none⟩) (ob (Nat.ne_of_lt (Nat.lt_of_lt_of_le (by have := World.block_lt_of_cell? _ _ hw417_0; first | rwa [add_block] at this | exact this) GW426.out))) _).trans (((cell_far (p := ⟨gb426, _, none⟩) (ob (Nat.ne_of_lt (Nat.lt_of_lt_of_le (by have := World.block_lt_of_cell? _ _ hw417_0; first | rwa [add_block] at this | exact this) GW426.out))) _).trans (((cell_far (p := ⟨gb426, _, none⟩) (ob (Nat.ne_of_lt (Nat.lt_of_lt_of_le (by have := World.block_lt_of_cell? _ _ hw417_0; first | rwa [add_block] at this | exact this) GW426.out))) _).trans (hHeld.2.2.2.1)))))), ((cell_far (p := ⟨gb426, _, none⟩) (ob (Nat.ne_of_lt (Nat.lt_of_lt_of_le (by have := World.block_lt_of_cell? _ _ hw417_1; first | rwa [add_block] at this | exact this) GW426.out))) _).trans (((cell_far (p := ⟨gb426, _, none⟩) (ob (Nat.ne_of_lt (Nat.lt_of_lt_of_le (by have := World.block_lt_of_cell? _ _ hw417_1; first | rwa [add_block] at this | exact this) GW426.out))) _).trans (((cell_far (p := ⟨gb426, _, none⟩) (ob (Nat.ne_of_lt (Nat.lt_of_lt_of_le (by have := World.block_lt_of_cell? _ _ hw417_1; first | rwa [add_block] at this | exact this) GW426.out))) _).trans (hHeld.2.2.2.2.1)))))), ((cell_far (p := ⟨gb426, _, none⟩) (ob (Nat.ne_of_lt (Nat.lt_of_lt_of_le (by have := World.block_lt_of_cell? _ _ hw417_2; first | rwa [add_block] at this | exact this) GW426.out))) _).trans (((cell_far (p := ⟨gb426, _, none⟩) (ob (Nat.ne_of_lt (Nat.lt_of_lt_of_le (by have := World.block_lt_of_cell? _ _ hw417_2; first | rwa [add_block] at this | exact this) GW426.out))) _).trans (((cell_far (p := ⟨gb426, _, none⟩) (ob (Nat.ne_of_lt (Nat.lt_of_lt_of_le (by have := World.block_lt_of_cell? _ _ hw417_2; first | rwa [add_block] at this | exact this) GW426.out))) _).trans (hHeld.2.2.2.2.2.1)))))), ((cell_far (p := ⟨gb426, _, none⟩) (ob (Nat.ne_of_lt (Nat.lt_of_lt_of_le (by have := World.block_lt_of_cell? _ _ hw417_3; first | rwa [add_block] at this | exact this) GW426.out))) _).trans (((cell_far (p := ⟨gb426, _, none⟩) (ob (Nat.ne_of_lt (Nat.lt_of_lt_of_le (by have := World.block_lt_of_cell? _ _ hw417_3; first | rwa [add_block] at this | exact this) GW426.out))) _).trans (((cell_far (p := ⟨gb426, _, none⟩) (ob (Nat.ne_of_lt (Nat.lt_of_lt_of_le (by have := World.block_lt_of_cell? _ _ hw417_3; first | rwa [add_block] at this | exact this) GW426.out))) _).trans (hHeld.2.2.2.2.2.2))))))⟩ (fun hHeld => ?_)
       clear hK K
       refine pz 15 11 HT_.out ?_
       refine done_ (done_of HT_.out (by kernel_rfl)) ?_
       have hnb40 := NB426_406.out
       have hnc40 := NB406_426.out
       have hnb41 := NB426_415.out
       have hnc41 := NB415_426.out
       have hcz42_0 : w34.cell? ⟨gb426, 0, none⟩ = some (.int .i64 0) := (blk_cell BK426.out 0).trans rfl
       have hcz42_1 : w34.cell? ⟨gb426, 1, none⟩ = some (.slice none 0 0) := (blk_cell BK426.out 1).trans rfl
       have hcz42_2 : w34.cell? ⟨gb426, 2, none⟩ = some (.slice none 0 0) := (blk_cell BK426.out 2).trans rfl
       have hfz42_0 := blk_frozen BK426.out 0
       have hfz42_1 := blk_frozen BK426.out 1
       have hfz42_2 := blk_frozen BK426.out 2
       have hnb43 := NB415_406.out
       have hnc43 := NB406_415.out
       have hcz44_0 : w34.cell? ⟨gb415, 0, none⟩ = some (.int .i64 x416000_1) := (blk_cell BK415.out 0).trans rfl
       have hcz44_1 : w34.cell? ⟨gb415, 1, none⟩ = some (.slice Ao29 x416001_1.length co29) := (blk_cell BK415.out 1).trans rfl
       have hcz44_2 : w34.cell? ⟨gb415, 2, none⟩ = some (.slice Ao30 x416002_1.length co30) := (blk_cell BK415.out 2).trans rfl
       have hfz44_0 := blk_frozen BK415.out 0
       have hfz44_1 := blk_frozen BK415.out 1
       have hfz44_2 := blk_frozen BK415.out 2
       try go_wp2
       go_roundg kj14
       case measure => have := HK1.out; have := HJ14.out; omega
       case rel => exact ⟨(wrap64 (x21_1 + 1)), (x407000_1), (t418), (t419), (t422), (.slice Ao36 t419.length co36), (.slice Ao38 t422.length co38), (by first | rfl | (simp; done) | (simp [*]; done)), H', ⟨by have := HK1.out; have := HJ14.out; omega⟩, ⟨by (with_reducible repeat (first | apply Kd.R_alloc | apply Kd.R_drewN | apply Kd.R_drew)); exact Kd.R_mono (Kd.R_far (p := ⟨gb415, 2, none⟩) (Kd.R_far (p := ⟨gb415, 1, none⟩) (Kd.R_far (p := ⟨gb415, 0, none⟩) (Kd.R_far (p := ⟨gb426, 2, none⟩) (Kd.R_far (p := ⟨gb426, 1, none⟩) (Kd.R_far (p := ⟨gb426, 0, none⟩) (Kd.R_types (Kd.R_types HO421.out BK426.out (by decide)) BK415.out (by decide)) (fun _ hk => hk.1.2) (.int .i64 t418)) (fun _ hk => hk.1.2) (.slice Ao36 t419.length co36)) (fun _ hk => hk.1.2) (.slice Ao38 t422.length co38)) (fun _ hk => hk.2) (.int .i64 t418)) (fun _ hk => hk.2) (.slice Ao36 t419.length co36)) (fun _ hk => hk.2) (.slice Ao38 t422.length co38)) (fun _ hk => trivial)⟩, ⟨by (with_reducible repeat (first | apply Kd.S_alloc | apply Kd.S_drewN | apply Kd.S_drew)); exact Kd.S_mono (Kd.S_far (p := ⟨gb415, 2, none⟩) (Kd.S_far (p := ⟨gb415, 1, none⟩) (Kd.S_far (p := ⟨gb415, 0, none⟩) (Kd.S_far (p := ⟨gb426, 2, none⟩) (Kd.S_far (p := ⟨gb426, 1, none⟩) (Kd.S_far (p := ⟨gb426, 0, none⟩) (Kd.S_types (Kd.S_types HO424.out BK426.out (by decide)) BK415.out (by decide)) (fun _ hk => hk.1.2) (.int .i64 t418)) (fun _ hk => hk.1.2) (.slice Ao36 t419.length co36)) (fun _ hk => hk.1.2) (.slice Ao38 t422.length co38)) (fun _ hk => hk.2) (.int .i64 t418)) (fun _ hk => hk.2) (.slice Ao36 t419.length co36)) (fun _ hk => hk.2) (.slice Ao38 t422.length co38)) (fun _ hk => hk.1.1.1)⟩, ⟨bf2 NB406_415.out NB406_426.out BK406.out⟩, ⟨by (with_reducible repeat (first | refine blk_drewN ?_ _ | refine blk_drew ?_ | refine blk_alloc ?_ _)); refine blk_put (cs := #[.int .i64 t418, .slice Ao36 t419.length co36, .slice Ao30 x416002_1.length co30]) ?_ 2 _ rfl; (with_reducible repeat (first | refine blk_drewN ?_ _ | refine blk_drew ?_ | refine blk_alloc ?_ _)); refine blk_put (cs := #[.int .i64 t418, .slice Ao29 x416001_1.length co29, .slice Ao30 x416002_1.length co30]) ?_ 1 _ rfl; (with_reducible repeat (first | refine blk_drewN ?_ _ | refine blk_drew ?_ | refine blk_alloc ?_ _)); refine blk_put (cs := #[.int .i64 x416000_1, .slice Ao29 x416001_1.length co29, .slice Ao30 x416002_1.length co30]) ?_ 0 _ rfl; (with_reducible repeat (first | refine blk_drewN ?_ _ | refine blk_drew ?_ | refine blk_alloc ?_ _)); refine blk_far ?_ NB415_426.out _; (with_reducible repeat (first | refine blk_drewN ?_ _ | refine blk_drew ?_ | refine blk_alloc ?_ _)); refine blk_far ?_ NB415_426.out _; (with_reducible repeat (first | refine blk_drewN ?_ _ | refine blk_drew ?_ | refine blk_alloc ?_ _)); refine blk_far ?_ NB415_426.out _; (with_reducible repeat (first | refine blk_drewN ?_ _ | refine blk_drew ?_ | refine blk_alloc ?_ _)); exact BK415.out⟩, ⟨hz3 HB.out GE406.out GE415.out GE426.out⟩⟩
   ·
    rw [if_neg c12] at H
    have c12b0 : decide (x21_1 < (l1.length : Int)) = false := decide_eq_false c12
    clear c12
    simp only [Option.some.injEq, Prod.mk.injEq] at H
    obtain ⟨rfl, rfl, rfl, rfl⟩ := H
    have hnb45 := NB415_406.out
    have hnc45 := NB406_415.out
    have hcz46_0 : wr.cell? ⟨gb415, 0, none⟩ = some (.int .i64 x416000_1) := (blk_cell BK415.out 0).trans rfl
    have hcz46_1 : wr.cell? ⟨gb415, 1, none⟩ = some (u416001) := (blk_cell BK415.out 1).trans rfl
    have hcz46_2 : wr.cell? ⟨gb415, 2, none⟩ = some (u416002) := (blk_cell BK415.out 2).trans rfl
    have hfz46_0 := blk_frozen BK415.out 0
    have hfz46_1 := blk_frozen BK415.out 1
    have hfz46_2 := blk_frozen BK415.out 2
    have hcz47_0 : wr.cell? ⟨gb406, 0, none⟩ = some (.int .i64 x407000_1) := (blk_cell BK406.out 0).trans rfl
    have hcz47_1 : wr.cell? ⟨gb406, 1, none⟩ = some (.slice none 0 0) := (blk_cell BK406.out 1).trans rfl
    have hcz47_2 : wr.cell? ⟨gb406, 2, none⟩ = some (.slice none 0 0) := (blk_cell BK406.out 2).trans rfl
    have hfz47_0 := blk_frozen BK406.out 0
    have hfz47_1 := blk_frozen BK406.out 1
    have hfz47_2 := blk_frozen BK406.out 2
    obtain ⟨Ao48, co48, eo48⟩ := Kd.R_slice HO_416001.out
    subst eo48
    obtain ⟨Ao49, co49, eo49⟩ := Kd.S_slice HO_416002.out
    subst eo49
    go_wp2
    refine bodyPost_ret (results_ct rfl _ _ gb406 34 #[.int .i64 x416000_1, .slice Ao48 x416001_1.length co48, .slice Ao49 x416002_1.length co49] (0, 0) _ rfl (by (with_reducible repeat (first | refine blk_drewN ?_ _ | refine blk_drew ?_ | refine blk_alloc ?_ _)); refine blk_put (cs := #[.int .i64 x416000_1, .slice Ao48 x416001_1.length co48, .slice none 0 0]) ?_ 2 _ rfl; (with_reducible repeat (first | refine blk_drewN ?_ _ | refine blk_drew ?_ | refine blk_alloc ?_ _)); refine blk_put (cs := #[.int .i64 x416000_1, .slice none 0 0, .slice none 0 0]) ?_ 1 _ rfl; (with_reducible repeat (first | refine blk_drewN ?_ _ | refine blk_drew ?_ | refine blk_alloc ?_ _)); refine blk_put (cs := #[.int .i64 x407000_1, .slice none 0 0, .slice none 0 0]) ?_ 0 _ rfl; (with_reducible repeat (first | refine blk_drewN ?_ _ | refine blk_drew ?_ | refine blk_alloc ?_ _)); exact BK406.out) Try.underlying34 rfl (by kernel_rfl)) rfl ?_
    exact ⟨_, _, by first | rfl | (simp [errW_none, errW_some] <;> rfl) | (simp [*, errW_none, errW_some] <;> rfl), by (with_reducible repeat (first | apply Kd.R_alloc | apply Kd.R_drewN | apply Kd.R_drew)); exact Kd.R_mono (rfg3 HO_416001.out BK406.out) (fun _ hk => trivial), by (with_reducible repeat (first | apply Kd.S_alloc | apply Kd.S_drewN | apply Kd.S_drew)); exact Kd.S_mono (sfg3 HO_416002.out BK406.out) (fun _ hk => hk.1), hz2 HB.out GE406.out GE415.out⟩

end Go.Proofs.Ytglpnbcockancaa.Q
