/- Made by wip/myprint.py of this session (it drives the kit's printer): what the calls of the Go functions come to, as plain Lean functions, and the row of a law over them; without conditions. -/
import Derived.Test.YtipjfhakcceebaaQx0
namespace Go.Proofs.Ytipjfhakcceebaa.Q
open Go.RowKit Go.Proofs.YtipjfhakcceebaaW.PrintWords Go.Proofs.YtipjfhakcceebaaW.PrintLast Go.Proofs.YtipjfhakcceebaaW.PrintMore
attribute [local go_sem] max2_int min2_int max_two min_two max_three min_three max_four min_four   -- for this text's walks alone
set_option linter.unusedVariables false
set_option linter.unusedSimpArgs false

/-! ### codec_clone: function 29 -/
mutual
def codec_clone.l0 : Nat → List (S24) → Int → Int → Int → Int → Int → ByteArray → List (S24) → Option (Int × Int × Int × ByteArray × (List (S24)))
 | 0, _, _, _, _, _, _, _, _ => none
 | k + 1, x9, x10, x11, x256000, x256001, x256002, x256003, x256004 => if x11 < x10 then (if 0 ≤ x11 then (if x11 < (x9.length : Int) then ((codec_clone.f k ((rd_T24 x9 x11).f0) ((rd_T24 x9 x11).f1) ((rd_T24 x9 x11).f2) ((rd_T24 x9 x11).f3) ((rd_T24 x9 x11).f4)).bind fun bt258 => (if x256004.length < 2199023255552 then (codec_clone.l0 k x9 x10 (wrap64 (x11 + 1)) x256000 x256001 x256002 x256003 (x256004 ++ [(⟨bt258.1, bt258.2.1, bt258.2.2.1, bt258.2.2.2.1, bt258.2.2.2.2⟩ : S24)])) else (none))) else (none)) else (none)) else (some (x256000, x256001, x256002, x256003, x256004))
def codec_clone.f : Nat → Int → Int → Int → ByteArray → List (S24) → Option (Int × Int × Int × ByteArray × (List (S24)))
 | 0, _, _, _, _, _ => none
 | k + 1, a0_0, a0_1, a0_2, a0_3, l0_4 => codec_clone.l0 k l0_4 (l0_4.length : Int) 0 a0_0 a0_1 a0_2 a0_3 ([] : List (S24))
end
theorem codec_clone.mono_l : ∀ k, (∀ y0 y1 y2 y3 y4, LeO (codec_clone.f k y0 y1 y2 y3 y4) (codec_clone.f (k + 1) y0 y1 y2 y3 y4)) ∧ (∀ y0 y1 y2 y3 y4 y5 y6 y7, LeO (codec_clone.l0 k y0 y1 y2 y3 y4 y5 y6 y7) (codec_clone.l0 (k + 1) y0 y1 y2 y3 y4 y5 y6 y7))
 | 0 => ⟨fun _ _ _ _ _ r h => by simp [codec_clone.f] at h, fun _ _ _ _ _ _ _ _ r h => by simp [codec_clone.l0] at h⟩
 | k + 1 => by
  obtain ⟨ih0, ih1⟩ := codec_clone.mono_l k
  refine ⟨?_, ?_⟩
  ·
   intro y0 y1 y2 y3 y4
   unfold codec_clone.f
   repeat' first
   | (with_reducible exact ih0 _ _ _ _ _)
   | (with_reducible exact ih1 _ _ _ _ _ _ _ _)
   | (with_reducible exact LeO.refl _)
   | (with_reducible exact LeO.none _)
   | (with_reducible refine LeO.ite ?_ ?_)
   | (with_reducible refine LeO.bind ?_ (fun _ => ?_))
   | exact ih0 _ _ _ _ _
   | exact ih1 _ _ _ _ _ _ _ _
   | exact LeO.none _
   | refine LeO.ite ?_ ?_
   | refine LeO.bind ?_ (fun _ => ?_)
  ·
   intro y0 y1 y2 y3 y4 y5 y6 y7
   unfold codec_clone.l0
   repeat' first
   | (with_reducible exact ih0 _ _ _ _ _)
   | (with_reducible exact ih1 _ _ _ _ _ _ _ _)
   | (with_reducible exact LeO.refl _)
   | (with_reducible exact LeO.none _)
   | (with_reducible refine LeO.ite ?_ ?_)
   | (with_reducible refine LeO.bind ?_ (fun _ => ?_))
   | exact ih0 _ _ _ _ _
   | exact ih1 _ _ _ _ _ _ _ _
   | exact LeO.none _
   | refine LeO.ite ?_ ?_
   | refine LeO.bind ?_ (fun _ => ?_)
theorem codec_clone.mono : ∀ a0 a1 a2 a3 a4 k, LeO (codec_clone.f k a0 a1 a2 a3 a4) (codec_clone.f (k + 1) a0 a1 a2 a3 a4) := by
 intro a0 a1 a2 a3 a4 k
 obtain ⟨ih0, ih1⟩ := codec_clone.mono_l k
 exact ih0 a0 a1 a2 a3 a4
def codec_clone.T6 : Bool × List (List Nat × List Nat) := (true, [([], []), ([0], [0]), ([], []), ([2], [2]), ([3], [3]), ([1, 4, 3], [1, 4]), ([0, 1, 2, 3, 4, 5], []), ([6, 5, 5, 0, 1, 2, 3, 4, 5], [5, 6])])
def codec_clone.B6 : List Nat := [0, 1, 0, 4, 12, 31, 63, 127]
theorem codec_clone.tab6 : rtab .any (opsOf Try.f29 6) = codec_clone.T6 := by kernel_rfl
theorem codec_clone.bits6 : waitsOk codec_clone.T6.2 codec_clone.B6 = true := by kernel_rfl
set_option maxHeartbeats 8000000 in
set_option maxRecDepth 100000 in
theorem codec_clone.calls (k : Nat) : ∀ (a0_0 : Int) (a0_1 : Int) (a0_2 : Int) (a0_3 : ByteArray) (A0_4 : Option Addr) (c0_4 : Nat) (l0_4 : List (S24)) (r1 : Int) (r2 : Int) (r3 : Int) (r4 : ByteArray) (r5 : List (S24)) (w : World) (hr0_4 : Kd.C k24 w A0_4 l0_4.length l0_4) (hc0_4 : l0_4.length ≤ c0_4) (h : codec_clone.f k a0_0 a0_1 a0_2 a0_3 l0_4 = some (r1, r2, r3, r4, r5)),
  Calls Try.prog 29 #[.agg #[.int .i64 a0_0, .int .i64 a0_1, .int .i64 a0_2, .string a0_3, .slice A0_4 l0_4.length c0_4]] w fun e w' => ∃ v4_ : Value, e = .returned (.agg #[.int .i64 r1, .int .i64 r2, .int .i64 r3, .string r4, v4_]) ∧ Kd.R k24 24 w' w.heap.size (fun _ => True) v4_ r5 ∧ Below w.heap.size w w' := by
 induction k using Nat.strongRecOn with
 | _ k ih =>
 intro a0_0 a0_1 a0_2 a0_3 A0_4 c0_4 l0_4 r1 r2 r3 r4 r5 w hr0_4 hc0_4 h
 cases k with
 | zero => exact absurd h (by simp [codec_clone.f])
 | succ k =>
 simp only [codec_clone.f] at h
 have hu24 := Try.underlying24
 have HR0_4 := am hr0_4
 have HC0_4 := am hc0_4
 clear hr0_4 hc0_4
 have HB := am (Below.refl w.heap.size w)
 have H : (codec_clone.l0 k l0_4 (l0_4.length : Int) 0 a0_0 a0_1 a0_2 a0_3 ([] : List (S24))) = some (r1, r2, r3, r4, r5) := h
 clear h
 have H' := am H
 clear H
 go_enter Try.func29, Try.ntmps29
 go_wp2_with (first | ((with_reducible refine gate_dst (N := 1) rfl ?_); refine box_event ?hg (N := 1) ?hd (cs := #[.int .i64 a0_0, .int .i64 a0_1, .int .i64 a0_2, .string a0_3, .slice A0_4 l0_4.length c0_4]) (t := 24) ?hr ?_; (case hd => rfl); (case hg => rfl); (case hr => exact gz); intro gb253 hg w2 hbox hb; have BK253 := am (hbox); have GW253 := am ((bs hg (hz HB.out) : w.heap.size ≤ gb253)); have GE253 := am ((bs hg (hz HB.out) : w.heap.size ≤ gb253)); replace HB := am (below_step (hz HB.out) hb); clear hb hbox hg) | ((with_reducible refine gate_dst (N := 2) rfl ?_); refine box_event ?hg (N := 2) ?hd (cs := #[.int .i64 0, .int .i64 0, .int .i64 0, .string (⟨#[]⟩ : ByteArray), .slice none 0 0]) (t := 24) ?hr ?_; (case hd => rfl); (case hg => rfl); (case hr => exact gz); intro gb254 hg w3 hbox hb; have BK254 := am (hbox); have GW254 := am ((bs hg (hz1 HB.out GE253.out) : w.heap.size ≤ gb254)); have GE254 := am ((bs hg (hz1 HB.out GE253.out) : w.heap.size ≤ gb254)); replace HB := am (below_step (hz1 HB.out GE253.out) hb); have NB253_254 := am ((nl hg (bz BK253.out) : gb253 ≠ gb254)); have NB254_253 := am ((ng hg (bz BK253.out) : gb254 ≠ gb253)); replace BK253 := am (blk_below (bz BK253.out) hb); clear hb hbox hg; have hnb4 := NB253_254.out; have hnc4 := NB254_253.out; obtain ⟨hcz5_0, hcz5_1, hcz5_2, hcz5_3, hcz5_4⟩ := cs5 BK253.out; obtain ⟨hfz5_0, hfz5_1, hfz5_2, hfz5_3, hfz5_4⟩ := fs5 BK253.out) | ((with_reducible refine gate_dst (N := 3) rfl ?_); refine box_event ?hg (N := 3) ?hd (cs := #[.int .i64 0, .int .i64 0, .int .i64 0, .string (⟨#[]⟩ : ByteArray), .slice none 0 0]) (t := 24) ?hr ?_; (case hd => rfl); (case hg => rfl); (case hr => exact gz); intro gb255 hg w6 hbox hb; have BK255 := am (hbox); have GW255 := am ((bs hg (hz2 HB.out GE253.out GE254.out) : w.heap.size ≤ gb255)); have GE255 := am ((bs hg (hz2 HB.out GE253.out GE254.out) : w.heap.size ≤ gb255)); replace HB := am (below_step (hz2 HB.out GE253.out GE254.out) hb); have NB253_255 := am ((nl hg (bz BK253.out) : gb253 ≠ gb255)); have NB255_253 := am ((ng hg (bz BK253.out) : gb255 ≠ gb253)); replace BK253 := am (blk_below (bz BK253.out) hb); have NB254_255 := am ((by rw [hg]; exact Nat.ne_of_lt (blk_lt (g := gb254) (o := .cells #[.int .i64 0, .int .i64 0, .int .i64 0, .string (⟨#[]⟩ : ByteArray), .slice none 0 0] 24 (0, 0)) (bz BK254.out)) : gb254 ≠ gb255)); have NB255_254 := am ((by rw [hg]; exact Nat.ne_of_gt (blk_lt (g := gb254) (o := .cells #[.int .i64 0, .int .i64 0, .int .i64 0, .string (⟨#[]⟩ : ByteArray), .slice none 0 0] 24 (0, 0)) (bz BK254.out)) : gb255 ≠ gb254)); replace BK254 := am (blk_below (g := gb254) (o := .cells #[.int .i64 0, .int .i64 0, .int .i64 0, .string (⟨#[]⟩ : ByteArray), .slice none 0 0] 24 (0, 0)) (bz BK254.out) hb); clear hb hbox hg; have hnb7 := NB255_253.out; have hnc7 := NB253_255.out; have hnb8 := NB255_254.out; have hnc8 := NB254_255.out; obtain ⟨hcz9_0, hcz9_1, hcz9_2, hcz9_3, hcz9_4⟩ := cs5 BK255.out; obtain ⟨hfz9_0, hfz9_1, hfz9_2, hfz9_3, hfz9_4⟩ := fs5 BK255.out; obtain ⟨hcz10_0, hcz10_1, hcz10_2, hcz10_3, hcz10_4⟩ := cs5 BK253.out; obtain ⟨hfz10_0, hfz10_1, hfz10_2, hfz10_3, hfz10_4⟩ := fs5 BK253.out))
 go_loopg [11] k (fun kq v11 w' => ∃ (x11_1 : Int) (x256004_1 : List (S24)) (u256004 : Value), v11 = .int .i64 x11_1 ∧ Aside0 (codec_clone.l0 kq l0_4 (l0_4.length : Int) x11_1 a0_0 a0_1 a0_2 a0_3 x256004_1 = some (r1, r2, r3, r4, r5)) ∧ Aside0 (kq ≤ k) ∧ Aside0 (Kd.R k24 24 w' w.heap.size (fun k_ => k_ ≠ gb253 ∧ k_ ≠ gb254 ∧ k_ ≠ gb255) u256004 x256004_1) ∧ Aside0 (w'.heap[gb253]? = some (.cells #[.int .i64 a0_0, .int .i64 a0_1, .int .i64 a0_2, .string a0_3, (.slice A0_4 l0_4.length c0_4)] 24 (0, 0))) ∧ Aside0 (w'.heap[gb254]? = some (.cells #[.int .i64 0, .int .i64 0, .int .i64 0, .string (⟨#[]⟩ : ByteArray), (.slice none 0 0)] 24 (0, 0))) ∧ Aside0 (w'.heap[gb255]? = some (.cells #[.int .i64 a0_0, .int .i64 a0_1, .int .i64 a0_2, .string a0_3, u256004] 24 (0, 0))) ∧ Aside0 (Below w.heap.size w w'))
 case atStart => exact ⟨(0), (([] : List (S24))), (.slice none 0 0), (by first | rfl | (simp; done) | (simp [*]; done)), H', ⟨Nat.le_refl _⟩, ⟨by first | exact Kd.R_nil _ _ _ _ _ | exact Kd.N_nil _ _ _ _ _ | exact Kd.V_nil _ _ _ _ _ | exact Kd.Q_nil _ _ _ _ _ | exact Kd.S_nil _ _ _ _ _⟩, ⟨bf1 NB253_255.out BK253.out⟩, ⟨bf1 NB254_255.out BK254.out⟩, ⟨by (with_reducible repeat (first | refine blk_drewN ?_ _ | refine blk_drew ?_ | refine blk_alloc ?_ _)); refine blk_put (cs := #[.int .i64 a0_0, .int .i64 a0_1, .int .i64 a0_2, .string a0_3, .slice A0_4 l0_4.length c0_4]) ?_ 4 _ rfl; (with_reducible repeat (first | refine blk_drewN ?_ _ | refine blk_drew ?_ | refine blk_alloc ?_ _)); refine blk_put (cs := #[.int .i64 a0_0, .int .i64 a0_1, .int .i64 a0_2, .string a0_3, .slice none 0 0]) ?_ 4 _ rfl; (with_reducible repeat (first | refine blk_drewN ?_ _ | refine blk_drew ?_ | refine blk_alloc ?_ _)); refine blk_put (cs := #[.int .i64 a0_0, .int .i64 a0_1, .int .i64 a0_2, .string (⟨#[]⟩ : ByteArray), .slice none 0 0]) ?_ 3 _ rfl; (with_reducible repeat (first | refine blk_drewN ?_ _ | refine blk_drew ?_ | refine blk_alloc ?_ _)); refine blk_put (cs := #[.int .i64 a0_0, .int .i64 a0_1, .int .i64 0, .string (⟨#[]⟩ : ByteArray), .slice none 0 0]) ?_ 2 _ rfl; (with_reducible repeat (first | refine blk_drewN ?_ _ | refine blk_drew ?_ | refine blk_alloc ?_ _)); refine blk_put (cs := #[.int .i64 a0_0, .int .i64 0, .int .i64 0, .string (⟨#[]⟩ : ByteArray), .slice none 0 0]) ?_ 1 _ rfl; (with_reducible repeat (first | refine blk_drewN ?_ _ | refine blk_drew ?_ | refine blk_alloc ?_ _)); refine blk_put (cs := #[.int .i64 0, .int .i64 0, .int .i64 0, .string (⟨#[]⟩ : ByteArray), .slice none 0 0]) ?_ 0 _ rfl; (with_reducible repeat (first | refine blk_drewN ?_ _ | refine blk_drew ?_ | refine blk_alloc ?_ _)); exact BK255.out⟩, ⟨hz3 HB.out GE253.out GE254.out GE255.out⟩⟩
 case round =>
  clear H'
  try clear c2
  try clear p2
  try clear c4
  try clear c7
  try clear c8
  try clear hcz10_0
  try clear hcz10_1
  try clear hcz10_2
  try clear hcz10_3
  try clear hcz10_4
  try clear hcz5_0
  try clear hcz5_1
  try clear hcz5_2
  try clear hcz5_3
  try clear hcz5_4
  try clear hcz9_0
  try clear hcz9_1
  try clear hcz9_2
  try clear hcz9_3
  try clear hcz9_4
  try clear hfz10_0
  try clear hfz10_1
  try clear hfz10_2
  try clear hfz10_3
  try clear hfz10_4
  try clear hfz5_0
  try clear hfz5_1
  try clear hfz5_2
  try clear hfz5_3
  try clear hfz5_4
  try clear hfz9_0
  try clear hfz9_1
  try clear hfz9_2
  try clear hfz9_3
  try clear hfz9_4
  obtain ⟨x11_1, x256004_1, u256004, rfl, HA, HK1, HO_256004, BK253, BK254, BK255, HB⟩ := hrel
  cases gk with
  | zero => exact absurd HA.out (by simp [codec_clone.l0])
  | succ k1 =>
   have H := HA.out
   clear HA
   simp only [codec_clone.l0] at H
   by_cases c11 : x11_1 < (l0_4.length : Int)
   ·
    rw [if_pos c11] at H
    have c11b0 : decide (x11_1 < (l0_4.length : Int)) = true := decide_eq_true c11
    clear c11
    replace H := it_ H
    obtain ⟨c12, H⟩ := H
    have c12b0 : decide (0 ≤ x11_1) = true := decide_eq_true c12
    clear c12
    replace H := it_ H
    obtain ⟨c13, H⟩ := H
    have c13b0 : decide (x11_1 < (l0_4.length : Int)) = true := decide_eq_true c13
    clear c13
    replace H := Option.bind_eq_some_iff.mp H
    obtain ⟨⟨t258, t259, t260, t261, t262⟩, A140, H⟩ := H
    replace H : (if x256004_1.length < 2199023255552 then (codec_clone.l0 k1 l0_4 (l0_4.length : Int) (wrap64 (x11_1 + 1)) a0_0 a0_1 a0_2 a0_3 (x256004_1 ++ [(⟨t258, t259, t260, t261, t262⟩ : S24)])) else (none)) = some (r1, r2, r3, r4, r5) := H
    have A14 := am A140
    clear A140
    replace H := it_ H
    obtain ⟨c15, H⟩ := H
    have LMc15 := am c15
    clear c15
    obtain ⟨y265, hy265⟩ : ∃ y_ : List (S24), y_ = (x256004_1 ++ [(⟨t258, t259, t260, t261, t262⟩ : S24)]) := ⟨_, rfl⟩
    replace H : (codec_clone.l0 k1 l0_4 (l0_4.length : Int) (wrap64 (x11_1 + 1)) a0_0 a0_1 a0_2 a0_3 y265) = some (r1, r2, r3, r4, r5) := by first | (rw [hy265]; with_reducible exact H) | (have H2_ := (Option.bind_some _ _).symm.trans H; rw [hy265]; with_reducible exact H2_) | (have H2_ := (Option.bind_some _ _).symm.trans H; with_reducible exact H2_) | with_reducible exact H | (rw [hy265]; exact H) | exact H
    have Ny265 := am hy265
    clear hy265
    have H' := am H
    clear H
    have p256 : 0 ≤ (x11_1 : Int) := of_decide_eq_true az
    have q256 : x11_1 < (l0_4.length : Int) := of_decide_eq_true az
    obtain ⟨ad256, A256_4, c256_4, e256, hx256_0, hx256_1, hx256_2, hx256_3, hx256_4, hl256_4, hi256_4⟩ := at_T24 HR0_4.out x11_1 p256 q256
    cases e256
    replace hx256_0 := (HB.out.cell (World.block_lt_of_cell? w _ hx256_0)).trans hx256_0
    replace hx256_1 := (HB.out.cell (World.block_lt_of_cell? w _ hx256_1)).trans hx256_1
    replace hx256_2 := (HB.out.cell (World.block_lt_of_cell? w _ hx256_2)).trans hx256_2
    replace hx256_3 := (HB.out.cell (World.block_lt_of_cell? w _ hx256_3)).trans hx256_3
    replace hx256_4 := (HB.out.cell (World.block_lt_of_cell? w _ hx256_4)).trans hx256_4
    have HR256_4 := am hi256_4
    have HC256_4 := am hl256_4
    clear hi256_4 hl256_4
    replace p256 := eq_true p256
    replace q256 := eq_true q256
    try go_wp2_with (first | ((with_reducible refine gate_dst (N := 5) rfl ?_); refine box_event ?hg (N := 5) ?hd (cs := #[.int .i64 0, .int .i64 0, .int .i64 0, .string (⟨#[]⟩ : ByteArray), .slice none 0 0]) (t := 24) ?hr ?_; (case hd => rfl); (case hg => rfl); (case hr => exact gz); intro gb257 hg w16 hbox hb; replace HO_256004 := am (Kd.R_below (Kd.R_elderB (rz HO_256004.out) gb257 (Nat.le_of_eq hg.symm)) hb); have BK257 := am (hbox); have GW257 := am ((bs hg (hz3 HB.out GE253.out GE254.out GE255.out) : w.heap.size ≤ gb257)); have GE257 := am ((bs hg (hz3 HB.out GE253.out GE254.out GE255.out) : w.heap.size ≤ gb257)); replace HB := am (below_step (hz3 HB.out GE253.out GE254.out GE255.out) hb); have NB253_257 := am ((nl hg (bz BK253.out) : gb253 ≠ gb257)); have NB257_253 := am ((ng hg (bz BK253.out) : gb257 ≠ gb253)); replace BK253 := am (blk_below (bz BK253.out) hb); have NB254_257 := am ((by rw [hg]; exact Nat.ne_of_lt (blk_lt (g := gb254) (o := .cells #[.int .i64 0, .int .i64 0, .int .i64 0, .string (⟨#[]⟩ : ByteArray), .slice none 0 0] 24 (0, 0)) (bz BK254.out)) : gb254 ≠ gb257)); have NB257_254 := am ((by rw [hg]; exact Nat.ne_of_gt (blk_lt (g := gb254) (o := .cells #[.int .i64 0, .int .i64 0, .int .i64 0, .string (⟨#[]⟩ : ByteArray), .slice none 0 0] 24 (0, 0)) (bz BK254.out)) : gb257 ≠ gb254)); replace BK254 := am (blk_below (g := gb254) (o := .cells #[.int .i64 0, .int .i64 0, .int .i64 0, .string (⟨#[]⟩ : ByteArray), .slice none 0 0] 24 (0, 0)) (bz BK254.out) hb); have NB255_257 := am ((nl hg (bz BK255.out) : gb255 ≠ gb257)); have NB257_255 := am ((ng hg (bz BK255.out) : gb257 ≠ gb255)); replace BK255 := am (blk_below (bz BK255.out) hb); clear hb hbox hg; have hnb17 := NB257_253.out; have hnc17 := NB253_257.out; have hnb18 := NB257_254.out; have hnc18 := NB254_257.out; have hnb19 := NB257_255.out; have hnc19 := NB255_257.out; obtain ⟨hcz20_0, hcz20_1, hcz20_2, hcz20_3, hcz20_4⟩ := cs5 BK257.out; obtain ⟨hfz20_0, hfz20_1, hfz20_2, hfz20_3, hfz20_4⟩ := fs5 BK257.out))
    have n0_ : Aside0 (Kd.R k24 24 (((((w16.setCell ⟨gb257, 0, none⟩ (.int .i64 ((rd_T24 l0_4 x11_1).f0))).setCell ⟨gb257, 1, none⟩ (.int .i64 ((rd_T24 l0_4 x11_1).f1))).setCell ⟨gb257, 2, none⟩ (.int .i64 ((rd_T24 l0_4 x11_1).f2))).setCell ⟨gb257, 3, none⟩ (.string ((rd_T24 l0_4 x11_1).f3))).setCell ⟨gb257, 4, none⟩ (.slice A256_4 ((rd_T24 l0_4 x11_1).f4).length c256_4)) w.heap.size (fun k_ => k_ ≠ gb253 ∧ k_ ≠ gb254 ∧ k_ ≠ gb255 ∧ k_ ≠ gb257) u256004 x256004_1) := ⟨by (with_reducible repeat (first | apply Kd.R_alloc | apply Kd.R_drewN | apply Kd.R_drew)); exact Kd.R_mono (Kd.R_far (p := ⟨gb257, 4, none⟩) (Kd.R_far (p := ⟨gb257, 3, none⟩) (Kd.R_far (p := ⟨gb257, 2, none⟩) (Kd.R_far (p := ⟨gb257, 1, none⟩) (Kd.R_far (p := ⟨gb257, 0, none⟩) (Kd.R_mono HO_256004.out (fun k_ hk => (⟨hk, hk.2⟩ : _ ∧ k_ ≠ gb257))) (fun _ hk => hk.2) (.int .i64 ((rd_T24 l0_4 x11_1).f0))) (fun _ hk => hk.2) (.int .i64 ((rd_T24 l0_4 x11_1).f1))) (fun _ hk => hk.2) (.int .i64 ((rd_T24 l0_4 x11_1).f2))) (fun _ hk => hk.2) (.string ((rd_T24 l0_4 x11_1).f3))) (fun _ hk => hk.2) (.slice A256_4 ((rd_T24 l0_4 x11_1).f4).length c256_4)) (fun _ hk => ⟨hk.1.1.1, ⟨hk.1.1.2.1, ⟨hk.1.1.2.2, hk.1.2⟩⟩⟩)⟩
    have n1_ : Aside0 ((((((w16.setCell ⟨gb257, 0, none⟩ (.int .i64 ((rd_T24 l0_4 x11_1).f0))).setCell ⟨gb257, 1, none⟩ (.int .i64 ((rd_T24 l0_4 x11_1).f1))).setCell ⟨gb257, 2, none⟩ (.int .i64 ((rd_T24 l0_4 x11_1).f2))).setCell ⟨gb257, 3, none⟩ (.string ((rd_T24 l0_4 x11_1).f3))).setCell ⟨gb257, 4, none⟩ (.slice A256_4 ((rd_T24 l0_4 x11_1).f4).length c256_4)).heap[gb253]? = some (.cells #[.int .i64 a0_0, .int .i64 a0_1, .int .i64 a0_2, .string a0_3, .slice (some ad256) l0_4.length c0_4] 24 (0, 0))) := ⟨bf1 NB253_257.out BK253.out⟩
    have n2_ : Aside0 ((((((w16.setCell ⟨gb257, 0, none⟩ (.int .i64 ((rd_T24 l0_4 x11_1).f0))).setCell ⟨gb257, 1, none⟩ (.int .i64 ((rd_T24 l0_4 x11_1).f1))).setCell ⟨gb257, 2, none⟩ (.int .i64 ((rd_T24 l0_4 x11_1).f2))).setCell ⟨gb257, 3, none⟩ (.string ((rd_T24 l0_4 x11_1).f3))).setCell ⟨gb257, 4, none⟩ (.slice A256_4 ((rd_T24 l0_4 x11_1).f4).length c256_4)).heap[gb254]? = some (.cells #[.int .i64 0, .int .i64 0, .int .i64 0, .string (⟨#[]⟩ : ByteArray), .slice none 0 0] 24 (0, 0))) := ⟨bf1 NB254_257.out BK254.out⟩
    have n3_ : Aside0 ((((((w16.setCell ⟨gb257, 0, none⟩ (.int .i64 ((rd_T24 l0_4 x11_1).f0))).setCell ⟨gb257, 1, none⟩ (.int .i64 ((rd_T24 l0_4 x11_1).f1))).setCell ⟨gb257, 2, none⟩ (.int .i64 ((rd_T24 l0_4 x11_1).f2))).setCell ⟨gb257, 3, none⟩ (.string ((rd_T24 l0_4 x11_1).f3))).setCell ⟨gb257, 4, none⟩ (.slice A256_4 ((rd_T24 l0_4 x11_1).f4).length c256_4)).heap[gb255]? = some (.cells #[.int .i64 a0_0, .int .i64 a0_1, .int .i64 a0_2, .string a0_3, u256004] 24 (0, 0))) := ⟨bf1 NB255_257.out BK255.out⟩
    have n4_ : Aside0 ((((((w16.setCell ⟨gb257, 0, none⟩ (.int .i64 ((rd_T24 l0_4 x11_1).f0))).setCell ⟨gb257, 1, none⟩ (.int .i64 ((rd_T24 l0_4 x11_1).f1))).setCell ⟨gb257, 2, none⟩ (.int .i64 ((rd_T24 l0_4 x11_1).f2))).setCell ⟨gb257, 3, none⟩ (.string ((rd_T24 l0_4 x11_1).f3))).setCell ⟨gb257, 4, none⟩ (.slice A256_4 ((rd_T24 l0_4 x11_1).f4).length c256_4)).heap[gb257]? = some (.cells #[.int .i64 ((rd_T24 l0_4 x11_1).f0), .int .i64 ((rd_T24 l0_4 x11_1).f1), .int .i64 ((rd_T24 l0_4 x11_1).f2), .string ((rd_T24 l0_4 x11_1).f3), .slice A256_4 ((rd_T24 l0_4 x11_1).f4).length c256_4] 24 (0, 0))) := ⟨by (with_reducible repeat (first | refine blk_drewN ?_ _ | refine blk_drew ?_ | refine blk_alloc ?_ _)); refine blk_put (cs := #[.int .i64 ((rd_T24 l0_4 x11_1).f0), .int .i64 ((rd_T24 l0_4 x11_1).f1), .int .i64 ((rd_T24 l0_4 x11_1).f2), .string ((rd_T24 l0_4 x11_1).f3), .slice none 0 0]) ?_ 4 _ rfl; (with_reducible repeat (first | refine blk_drewN ?_ _ | refine blk_drew ?_ | refine blk_alloc ?_ _)); refine blk_put (cs := #[.int .i64 ((rd_T24 l0_4 x11_1).f0), .int .i64 ((rd_T24 l0_4 x11_1).f1), .int .i64 ((rd_T24 l0_4 x11_1).f2), .string (⟨#[]⟩ : ByteArray), .slice none 0 0]) ?_ 3 _ rfl; (with_reducible repeat (first | refine blk_drewN ?_ _ | refine blk_drew ?_ | refine blk_alloc ?_ _)); refine blk_put (cs := #[.int .i64 ((rd_T24 l0_4 x11_1).f0), .int .i64 ((rd_T24 l0_4 x11_1).f1), .int .i64 0, .string (⟨#[]⟩ : ByteArray), .slice none 0 0]) ?_ 2 _ rfl; (with_reducible repeat (first | refine blk_drewN ?_ _ | refine blk_drew ?_ | refine blk_alloc ?_ _)); refine blk_put (cs := #[.int .i64 ((rd_T24 l0_4 x11_1).f0), .int .i64 0, .int .i64 0, .string (⟨#[]⟩ : ByteArray), .slice none 0 0]) ?_ 1 _ rfl; (with_reducible repeat (first | refine blk_drewN ?_ _ | refine blk_drew ?_ | refine blk_alloc ?_ _)); refine blk_put (cs := #[.int .i64 0, .int .i64 0, .int .i64 0, .string (⟨#[]⟩ : ByteArray), .slice none 0 0]) ?_ 0 _ rfl; (with_reducible repeat (first | refine blk_drewN ?_ _ | refine blk_drew ?_ | refine blk_alloc ?_ _)); exact BK257.out⟩
    have n5_ : Aside0 (Below w.heap.size w (((((w16.setCell ⟨gb257, 0, none⟩ (.int .i64 ((rd_T24 l0_4 x11_1).f0))).setCell ⟨gb257, 1, none⟩ (.int .i64 ((rd_T24 l0_4 x11_1).f1))).setCell ⟨gb257, 2, none⟩ (.int .i64 ((rd_T24 l0_4 x11_1).f2))).setCell ⟨gb257, 3, none⟩ (.string ((rd_T24 l0_4 x11_1).f3))).setCell ⟨gb257, 4, none⟩ (.slice A256_4 ((rd_T24 l0_4 x11_1).f4).length c256_4))) := ⟨hz4 HB.out GE253.out GE254.out GE255.out GE257.out⟩
    (try clear HO_256004)
    (try clear BK253)
    (try clear BK254)
    (try clear BK255)
    (try clear BK257)
    (try clear HB)
    generalize (((((w16.setCell ⟨gb257, 0, none⟩ (.int .i64 ((rd_T24 l0_4 x11_1).f0))).setCell ⟨gb257, 1, none⟩ (.int .i64 ((rd_T24 l0_4 x11_1).f1))).setCell ⟨gb257, 2, none⟩ (.int .i64 ((rd_T24 l0_4 x11_1).f2))).setCell ⟨gb257, 3, none⟩ (.string ((rd_T24 l0_4 x11_1).f3))).setCell ⟨gb257, 4, none⟩ (.slice A256_4 ((rd_T24 l0_4 x11_1).f4).length c256_4)) = w21 at n0_ n1_ n2_ n3_ n4_ n5_ ⊢
    have HO_256004 := n0_
    have BK253 := n1_
    have BK254 := n2_
    have BK255 := n3_
    have BK257 := n4_
    have HB := n5_
    clear n0_ n1_ n2_ n3_ n4_ n5_
    replace HO_256004 := am (Kd.R_drew HO_256004.out)
    replace BK253 := am (blk_drew BK253.out)
    replace BK254 := am (blk_drew BK254.out)
    replace BK255 := am (blk_drew BK255.out)
    replace BK257 := am (blk_drew BK257.out)
    replace HB := am (below_drew1 HB.out)
    refine start_ (n := 8) (S := fun w' => w'.cell? ⟨gb255, 0, none⟩ = some (.int .i64 a0_0) ∧ w'.cell? ⟨gb255, 1, none⟩ = some (.int .i64 a0_1) ∧ w'.cell? ⟨gb255, 2, none⟩ = some (.int .i64 a0_2) ∧ w'.cell? ⟨gb255, 3, none⟩ = some (.string a0_3) ∧ w'.cell? ⟨gb255, 4, none⟩ = some (u256004) ∧ w'.cell? ⟨gb257, 0, none⟩ = some (.int .i64 ((rd_T24 l0_4 x11_1).f0)) ∧ w'.cell? ⟨gb257, 1, none⟩ = some (.int .i64 ((rd_T24 l0_4 x11_1).f1)) ∧ w'.cell? ⟨gb257, 2, none⟩ = some (.int .i64 ((rd_T24 l0_4 x11_1).f2)) ∧ w'.cell? ⟨gb257, 3, none⟩ = some (.string ((rd_T24 l0_4 x11_1).f3)) ∧ w'.cell? ⟨gb257, 4, none⟩ = some (.slice A256_4 ((rd_T24 l0_4 x11_1).f4).length c256_4)) (ds := [7]) #[false, false, false, false, false, false, false, false] (by kernel_rfl) rfl rfl ⟨(blk_cell BK255.out 0).trans rfl, (blk_cell BK255.out 1).trans rfl, (blk_cell BK255.out 2).trans rfl, (blk_cell BK255.out 3).trans rfl, (blk_cell BK255.out 4).trans rfl, (blk_cell BK257.out 0).trans rfl, (blk_cell BK257.out 1).trans rfl, (blk_cell BK257.out 2).trans rfl, (blk_cell BK257.out 3).trans rfl, (blk_cell BK257.out 4).trans rfl⟩ (fun hHeld => ?_); refine with_tabW codec_clone.tab6 codec_clone.bits6 (fun HT_ HW_ => ?_)
    generalize w21.drew = w22 at HO_256004 BK253 BK254 BK255 BK257 HB hHeld ⊢
    refine pz 0 15 HT_.out ?_
    refine take_ (i := 1) (N := some 16) (v := ?_) (a' := ?_) #[true, true, false, false, false, false, false, false] rfl rfl (take_ofW HT_.out HW_.out (by kernel_rfl)) (fun _ _ _ h => h) (Or.inl ⟨by rfl, ?_⟩) hHeld ?_ ?_
    rotate_left
    ·
     rintro w' ⟨s0, s1, s2, s3, s4, s5, s6, s7, s8, s9⟩
     go_simp
     with_reducible rfl
    rotate_left
    ·
     simp only [Act.put, List.setIfInBounds_toArray, List.set_cons_zero, List.set_cons_succ, i64_w, i32_w]
     rfl
    refine take_ (i := 2) (N := some 17) (v := ?_) (a' := ?_) #[true, true, true, false, false, false, false, false] rfl rfl (take_ofW HT_.out HW_.out (by kernel_rfl)) (fun _ _ _ h => h) (Or.inl ⟨by rfl, ?_⟩) hHeld ?_ ?_
    rotate_left
    ·
     rintro w' ⟨s0, s1, s2, s3, s4, s5, s6, s7, s8, s9⟩
     go_simp
     with_reducible rfl
    rotate_left
    ·
     simp only [Act.put, List.setIfInBounds_toArray, List.set_cons_zero, List.set_cons_succ, i64_w, i32_w]
     rfl
    refine oz 3 18 HT_.out (fun K hK => ?_)
    refine goes_ Try.func29 (by kernel_rfl) rfl #[.agg #[.int .i64 ((rd_T24 l0_4 x11_1).f0), .int .i64 ((rd_T24 l0_4 x11_1).f1), .int .i64 ((rd_T24 l0_4 x11_1).f2), .string ((rd_T24 l0_4 x11_1).f3), .slice A256_4 ((rd_T24 l0_4 x11_1).f4).length c256_4]] (by rfl) rfl rfl lz ?_
    with_reducible refine (ih k1 (by have := HK1.out; omega) ((rd_T24 l0_4 x11_1).f0) ((rd_T24 l0_4 x11_1).f1) ((rd_T24 l0_4 x11_1).f2) ((rd_T24 l0_4 x11_1).f3) _ _ ((rd_T24 l0_4 x11_1).f4) t258 t259 t260 t261 t262 _ ?side1 ?side2 A14.out).mono ?_
    (case side1 => exact cz (Kd.C_below HR256_4.out HB.out))
    (case side2 => exact HC256_4.out)
    rintro e w23 ⟨v263, rfl, ho0, hb⟩
    refine ⟨_, rfl, ?_⟩
    have HO264 := am (Kd.R_lower (Kd.R_newB (Kd.R_newB (Kd.R_newB (Kd.R_newB (Kd.R_new' ho0 (Kd.R_lt (rz HO_256004.out))) (g := gb253) (o := .cells #[.int .i64 a0_0, .int .i64 a0_1, .int .i64 a0_2, .string a0_3, .slice (some ad256) l0_4.length c0_4] 24 (0, 0)) (bz BK253.out)) (g := gb254) (o := .cells #[.int .i64 0, .int .i64 0, .int .i64 0, .string (⟨#[]⟩ : ByteArray), .slice none 0 0] 24 (0, 0)) (bz BK254.out)) (g := gb255) (o := .cells #[.int .i64 a0_0, .int .i64 a0_1, .int .i64 a0_2, .string a0_3, u256004] 24 (0, 0)) (bz BK255.out)) (g := gb257) (o := .cells #[.int .i64 ((rd_T24 l0_4 x11_1).f0), .int .i64 ((rd_T24 l0_4 x11_1).f1), .int .i64 ((rd_T24 l0_4 x11_1).f2), .string ((rd_T24 l0_4 x11_1).f3), .slice A256_4 ((rd_T24 l0_4 x11_1).f4).length c256_4] 24 (0, 0)) (bz BK257.out)) (below_size (hz4 HB.out GE253.out GE254.out GE255.out GE257.out)))
    replace HO_256004 := am (Kd.R_elder' (rz HO_256004.out) (Kd.R_base ho0) hb)
    replace BK253 := am (blk_below (bz BK253.out) hb)
    replace BK254 := am (blk_below (g := gb254) (o := .cells #[.int .i64 0, .int .i64 0, .int .i64 0, .string (⟨#[]⟩ : ByteArray), .slice none 0 0] 24 (0, 0)) (bz BK254.out) hb)
    replace BK255 := am (blk_below (bz BK255.out) hb)
    replace BK257 := am (blk_below (bz BK257.out) hb)
    replace HB := am (below_step (hz4 HB.out GE253.out GE254.out GE255.out GE257.out) hb)
    (try clear hb)
    (try clear hb2)
    (try clear hk)
    (try clear hi)
    (try clear ho0)
    obtain ⟨Ao25, co25, eo25⟩ := Kd.R_slice HO264.out
    (first | subst eo25 | (injection eo25 with f1_ f2_ f3_; have f4_ := f1_.symm; have f5_ := f3_.symm; clear f1_ f2_ f3_; subst f4_; subst f5_))
    refine hK.out _ _ ⟨(blk_cell BK255.out 0).trans rfl, (blk_cell BK255.out 1).trans rfl, (blk_cell BK255.out 2).trans rfl, (blk_cell BK255.out 3).trans rfl, (blk_cell BK255.out 4).trans rfl, (blk_cell BK257.out 0).trans rfl, (blk_cell BK257.out 1).trans rfl, (blk_cell BK257.out 2).trans rfl, (blk_cell BK257.out 3).trans rfl, (blk_cell BK257.out 4).trans rfl⟩ (fun hHeld => ?_)
    clear hK K
    refine norm_ (a' := ?_) ?_ ?_
    rotate_left
    ·
     show Act.put _ (some 18) _ = _
     simp only [Act.put, List.setIfInBounds_toArray, List.set_cons_zero, List.set_cons_succ, i64_w, i32_w]
     rfl
    refine oz 4 19 HT_.out (fun K hK => ?_)
    refine value_ (w1 := ?_) (v := ?_) (by rfl) rfl ?_ ?_
    rotate_left 2
    ·
     go_simp
     constructor
     ·
      rfl
     ·
      rfl
    refine hK.out _ _ ⟨(blk_cell (blk_alloc BK255.out _) 0).trans rfl, (blk_cell (blk_alloc BK255.out _) 1).trans rfl, (blk_cell (blk_alloc BK255.out _) 2).trans rfl, (blk_cell (blk_alloc BK255.out _) 3).trans rfl, (blk_cell (blk_alloc BK255.out _) 4).trans rfl, (blk_cell (blk_alloc BK257.out _) 0).trans rfl, (blk_cell (blk_alloc BK257.out _) 1).trans rfl, (blk_cell (blk_alloc BK257.out _) 2).trans rfl, (blk_cell (blk_alloc BK257.out _) 3).trans rfl, (blk_cell (blk_alloc BK257.out _) 4).trans rfl⟩ (fun hHeld => ?_)
    clear hK K
    refine norm_ (a' := ?_) ?_ ?_
    rotate_left
    ·
     show Act.put _ (some 19) _ = _
     simp only [Act.put, List.setIfInBounds_toArray, List.set_cons_zero, List.set_cons_succ, i64_w, i32_w]
     rfl
    refine oz 5 20 HT_.out (fun K hK => ?_)
    refine Kd.R_append_step k24 (w0 := w) w.heap.size (by rfl) (.tmp 16) (.tmp 19) 22 24 (.agg #[(.int .i64 0), (.int .i64 0), (.int .i64 0), (.string ⟨#[]⟩), (.slice none 0 0)]) 64 rfl Try.underlying22 info24 rfl (by decide) (by omega) u256004 x256004_1 (⟨t258, t259, t260, t261, t262⟩ : S24) [.int .i64 t258, .int .i64 t259, .int .i64 t260, .string t261, .slice Ao25 t262.length co25] (fun k_ => k_ ≠ gb253 ∧ k_ ≠ gb254 ∧ k_ ≠ gb255 ∧ k_ ≠ gb257) (fun k_ => ((fun k_ => k_ ≠ gb253 ∧ k_ ≠ gb254 ∧ k_ ≠ gb255 ∧ k_ ≠ gb257)) k_ ∧ some k_ ≠ (u256004 : Value).ownBlock) rfl rfl ?aP (fun _ hk => hk) ?aF ?aO ?aB ?aS ?aL ?_
    (case aP => exact k24_mkM _ _ _ (⟨t258, t259, t260, t261, t262⟩ : S24) (Kd.R_mono (HO264.out) (fun k_ hk => ⟨⟨hk.1.1.1.2, ⟨hk.1.1.2, ⟨hk.1.2, hk.2⟩⟩⟩, hk.1.1.1.1.2⟩)))
    (case aB => exact (hz4 HB.out GE253.out GE254.out GE255.out GE257.out))
    (case aF => exact (fun k_ hk => ⟨Kd.freshB (g := gb253) (o := .cells #[.int .i64 a0_0, .int .i64 a0_1, .int .i64 a0_2, .string a0_3, .slice (some ad256) l0_4.length c0_4] 24 (0, 0)) (bz BK253.out) k_ hk, Kd.freshB (g := gb254) (o := .cells #[.int .i64 0, .int .i64 0, .int .i64 0, .string (⟨#[]⟩ : ByteArray), .slice none 0 0] 24 (0, 0)) (bz BK254.out) k_ hk, Kd.freshB (g := gb255) (o := .cells #[.int .i64 a0_0, .int .i64 a0_1, .int .i64 a0_2, .string a0_3, u256004] 24 (0, 0)) (bz BK255.out) k_ hk, Kd.freshB (g := gb257) (o := .cells #[.int .i64 ((rd_T24 l0_4 x11_1).f0), .int .i64 ((rd_T24 l0_4 x11_1).f1), .int .i64 ((rd_T24 l0_4 x11_1).f2), .string ((rd_T24 l0_4 x11_1).f3), .slice A256_4 ((rd_T24 l0_4 x11_1).f4).length c256_4] 24 (0, 0)) (bz BK257.out) k_ hk⟩))
    (case aO => exact (rz (Kd.R_mono HO_256004.out (fun _ hk => ⟨hk.1.1, ⟨hk.1.2.1, ⟨hk.1.2.2.1, hk.1.2.2.2⟩⟩⟩))))
    (case aS => exact (below_size (hz4 HB.out GE253.out GE254.out GE255.out GE257.out)))
    (case aL => have := LMc15.out; omega)
    intro v266 w24 ho hb hg hat
    rw [← Ny265.out] at ho
    replace BK253 := am (blk_grown (bz BK253.out) hg (Kd.R_away HO_256004.out (fun _ hk => hk.1.1)))
    replace BK254 := am (blk_grown (g := gb254) (o := .cells #[.int .i64 0, .int .i64 0, .int .i64 0, .string (⟨#[]⟩ : ByteArray), .slice none 0 0] 24 (0, 0)) (bz BK254.out) hg (Kd.R_away HO_256004.out (fun _ hk => hk.1.2.1)))
    replace BK255 := am (blk_grown (bz BK255.out) hg (Kd.R_away HO_256004.out (fun _ hk => hk.1.2.2.1)))
    replace BK257 := am (blk_grown (bz BK257.out) hg (Kd.R_away HO_256004.out (fun _ hk => hk.1.2.2.2)))
    replace HB := am (hb)
    have HO267 := am (ho)
    clear HO_256004 HO264
    clear ho hb hg hat
    obtain ⟨Ao26, co26, eo26⟩ := Kd.R_slice HO267.out
    (first | subst eo26 | (injection eo26 with f1_ f2_ f3_; have f4_ := f1_.symm; have f5_ := f3_.symm; clear f1_ f2_ f3_; subst f4_; subst f5_))
    refine hK.out _ _ ⟨(blk_cell BK255.out 0).trans rfl, (blk_cell BK255.out 1).trans rfl, (blk_cell BK255.out 2).trans rfl, (blk_cell BK255.out 3).trans rfl, (blk_cell BK255.out 4).trans rfl, (blk_cell BK257.out 0).trans rfl, (blk_cell BK257.out 1).trans rfl, (blk_cell BK257.out 2).trans rfl, (blk_cell BK257.out 3).trans rfl, (blk_cell BK257.out 4).trans rfl⟩ (fun hHeld => ?_)
    clear hK K
    refine norm_ (a' := ?_) ?_ ?_
    rotate_left
    ·
     show Act.put _ (some 20) _ = _
     simp only [Act.put, List.setIfInBounds_toArray, List.set_cons_zero, List.set_cons_succ, i64_w, i32_w]
     rfl
    refine pz 6 21 HT_.out ?_
    refine last_ (i := 7) (N := none) #[true, true, true, true, true, true, true, true] rfl rfl (one_of HT_.out (by kernel_rfl)) (by decide) (fun K hK => ?_)
    have hs27 : w24.cell? ⟨gb255, 4, none⟩ = some (u256004) := (blk_cell BK255.out 4).trans rfl
    have hfs27 := blk_frozen BK255.out 4
    have hns27_0 := NB253_255.out
    have hns27_1 := NB254_255.out
    have hns27_3 := NB257_255.out
    have hms27_0 := NB255_253.out
    have hms27_1 := NB255_254.out
    have hms27_3 := NB255_257.out
    refine skip_ (w1 := ?_) (by rfl) rfl ?_ ?_
    rotate_left
    ·
     go_simp
     rfl
    refine hK.out _ _ ?_
    clear hK K
    refine done_ (done_of HT_.out (by kernel_rfl)) ?_
    try go_wp2
    go_roundg k1
    case measure => have := HK1.out; omega
    case rel => exact ⟨(wrap64 (x11_1 + 1)), (y265), (.slice Ao26 y265.length co26), (by first | rfl | (simp; done) | (simp [*]; done)), H', ⟨by have := HK1.out; omega⟩, ⟨by (with_reducible repeat (first | apply Kd.R_alloc | apply Kd.R_drewN | apply Kd.R_drew)); exact Kd.R_mono (Kd.R_far (p := ⟨gb255, 4, none⟩) (Kd.R_mono HO267.out (fun k_ hk => (⟨hk, hk.2.2.1⟩ : _ ∧ k_ ≠ gb255))) (fun _ hk => hk.2) (.slice Ao26 y265.length co26)) (fun _ hk => ⟨hk.1.1, ⟨hk.1.2.1, hk.1.2.2.1⟩⟩)⟩, ⟨bf1 NB253_255.out BK253.out⟩, ⟨bf1 NB254_255.out BK254.out⟩, ⟨by (with_reducible repeat (first | refine blk_drewN ?_ _ | refine blk_drew ?_ | refine blk_alloc ?_ _)); refine blk_put (cs := #[.int .i64 a0_0, .int .i64 a0_1, .int .i64 a0_2, .string a0_3, u256004]) ?_ 4 _ rfl; (with_reducible repeat (first | refine blk_drewN ?_ _ | refine blk_drew ?_ | refine blk_alloc ?_ _)); exact BK255.out⟩, ⟨hz4 HB.out GE253.out GE254.out GE255.out GE257.out⟩⟩
   ·
    rw [if_neg c11] at H
    have c11b0 : decide (x11_1 < (l0_4.length : Int)) = false := decide_eq_false c11
    clear c11
    simp only [Option.some.injEq, Prod.mk.injEq] at H
    obtain ⟨rfl, rfl, rfl, rfl, rfl⟩ := H
    have hnb28 := NB255_253.out
    have hnc28 := NB253_255.out
    have hnb29 := NB255_254.out
    have hnc29 := NB254_255.out
    have hcz30_0 : wr.cell? ⟨gb255, 0, none⟩ = some (.int .i64 a0_0) := (blk_cell BK255.out 0).trans rfl
    have hcz30_1 : wr.cell? ⟨gb255, 1, none⟩ = some (.int .i64 a0_1) := (blk_cell BK255.out 1).trans rfl
    have hcz30_2 : wr.cell? ⟨gb255, 2, none⟩ = some (.int .i64 a0_2) := (blk_cell BK255.out 2).trans rfl
    have hcz30_3 : wr.cell? ⟨gb255, 3, none⟩ = some (.string a0_3) := (blk_cell BK255.out 3).trans rfl
    have hcz30_4 : wr.cell? ⟨gb255, 4, none⟩ = some (u256004) := (blk_cell BK255.out 4).trans rfl
    have hfz30_0 := blk_frozen BK255.out 0
    have hfz30_1 := blk_frozen BK255.out 1
    have hfz30_2 := blk_frozen BK255.out 2
    have hfz30_3 := blk_frozen BK255.out 3
    have hfz30_4 := blk_frozen BK255.out 4
    have hnb31 := NB254_253.out
    have hnc31 := NB253_254.out
    have hcz32_0 : wr.cell? ⟨gb254, 0, none⟩ = some (.int .i64 0) := (blk_cell BK254.out 0).trans rfl
    have hcz32_1 : wr.cell? ⟨gb254, 1, none⟩ = some (.int .i64 0) := (blk_cell BK254.out 1).trans rfl
    have hcz32_2 : wr.cell? ⟨gb254, 2, none⟩ = some (.int .i64 0) := (blk_cell BK254.out 2).trans rfl
    have hcz32_3 : wr.cell? ⟨gb254, 3, none⟩ = some (.string (⟨#[]⟩ : ByteArray)) := (blk_cell BK254.out 3).trans rfl
    have hcz32_4 : wr.cell? ⟨gb254, 4, none⟩ = some (.slice none 0 0) := (blk_cell BK254.out 4).trans rfl
    have hfz32_0 := blk_frozen BK254.out 0
    have hfz32_1 := blk_frozen BK254.out 1
    have hfz32_2 := blk_frozen BK254.out 2
    have hfz32_3 := blk_frozen BK254.out 3
    have hfz32_4 := blk_frozen BK254.out 4
    obtain ⟨Ao33, co33, eo33⟩ := Kd.R_slice HO_256004.out
    subst eo33
    go_wp2
    refine bodyPost_ret (results_cell_row rfl _ _ gb254 24 #[.int .i64 a0_0, .int .i64 a0_1, .int .i64 a0_2, .string a0_3, .slice Ao33 x256004_1.length co33] (0, 0) _ rfl (by (with_reducible repeat (first | refine blk_drewN ?_ _ | refine blk_drew ?_ | refine blk_alloc ?_ _)); refine blk_put (cs := #[.int .i64 a0_0, .int .i64 a0_1, .int .i64 a0_2, .string a0_3, .slice none 0 0]) ?_ 4 _ rfl; (with_reducible repeat (first | refine blk_drewN ?_ _ | refine blk_drew ?_ | refine blk_alloc ?_ _)); refine blk_put (cs := #[.int .i64 a0_0, .int .i64 a0_1, .int .i64 a0_2, .string (⟨#[]⟩ : ByteArray), .slice none 0 0]) ?_ 3 _ rfl; (with_reducible repeat (first | refine blk_drewN ?_ _ | refine blk_drew ?_ | refine blk_alloc ?_ _)); refine blk_put (cs := #[.int .i64 a0_0, .int .i64 a0_1, .int .i64 0, .string (⟨#[]⟩ : ByteArray), .slice none 0 0]) ?_ 2 _ rfl; (with_reducible repeat (first | refine blk_drewN ?_ _ | refine blk_drew ?_ | refine blk_alloc ?_ _)); refine blk_put (cs := #[.int .i64 a0_0, .int .i64 0, .int .i64 0, .string (⟨#[]⟩ : ByteArray), .slice none 0 0]) ?_ 1 _ rfl; (with_reducible repeat (first | refine blk_drewN ?_ _ | refine blk_drew ?_ | refine blk_alloc ?_ _)); refine blk_put (cs := #[.int .i64 0, .int .i64 0, .int .i64 0, .string (⟨#[]⟩ : ByteArray), .slice none 0 0]) ?_ 0 _ rfl; (with_reducible repeat (first | refine blk_drewN ?_ _ | refine blk_drew ?_ | refine blk_alloc ?_ _)); exact BK254.out) Try.underlying24 rfl (by kernel_rfl)) rfl ?_
    exact ⟨_, by first | rfl | (simp [errW_none, errW_some] <;> rfl) | (simp [*, errW_none, errW_some] <;> rfl), by (with_reducible repeat (first | apply Kd.R_alloc | apply Kd.R_drewN | apply Kd.R_drew)); exact Kd.R_mono (Kd.R_far (p := ⟨gb254, 4, none⟩) (Kd.R_far (p := ⟨gb254, 3, none⟩) (Kd.R_far (p := ⟨gb254, 2, none⟩) (Kd.R_far (p := ⟨gb254, 1, none⟩) (Kd.R_far (p := ⟨gb254, 0, none⟩) (Kd.R_mono HO_256004.out (fun k_ hk => (⟨hk, hk.2.1⟩ : _ ∧ k_ ≠ gb254))) (fun _ hk => hk.2) (.int .i64 a0_0)) (fun _ hk => hk.2) (.int .i64 a0_1)) (fun _ hk => hk.2) (.int .i64 a0_2)) (fun _ hk => hk.2) (.string a0_3)) (fun _ hk => hk.2) (.slice Ao33 x256004_1.length co33)) (fun _ hk => trivial), hz3 HB.out GE253.out GE254.out GE255.out⟩

/-! ### codec_List: function 19 -/
def codec_List.f (k : Nat) (a0 : Int) (l1 : List (S24)) : Option (Int × Int × Int × ByteArray × (List (S24))) := (codec_clone.f k a0 3 0 (⟨#[]⟩ : ByteArray) l1).bind fun bt269 => (some (bt269.1, bt269.2.1, bt269.2.2.1, bt269.2.2.2.1, bt269.2.2.2.2))
theorem codec_List.mono : ∀ a0 a1 k, LeO (codec_List.f k a0 a1) (codec_List.f (k + 1) a0 a1) := by
 intro a0 a1 k
 unfold codec_List.f
 repeat' first
   | (with_reducible exact codec_clone.mono _ _ _ _ _ _)
   | (with_reducible exact LeO.refl _)
   | (with_reducible exact LeO.none _)
   | (with_reducible refine LeO.ite ?_ ?_)
   | (with_reducible refine LeO.bind ?_ (fun _ => ?_))
   | exact codec_clone.mono _ _ _ _ _ _
   | exact LeO.none _
   | refine LeO.ite ?_ ?_
   | refine LeO.bind ?_ (fun _ => ?_)
set_option maxHeartbeats 8000000 in
set_option maxRecDepth 100000 in
theorem codec_List.calls (k : Nat) (a0 : Int) (A1 : Option Addr) (c1 : Nat) (l1 : List (S24)) (r1 : Int) (r2 : Int) (r3 : Int) (r4 : ByteArray) (r5 : List (S24)) (w : World) (hr1 : Kd.C k24 w A1 l1.length l1) (hc1 : l1.length ≤ c1) (h : codec_List.f k a0 l1 = some (r1, r2, r3, r4, r5)) :
  Calls Try.prog 19 #[.int .i64 a0, .slice A1 l1.length c1] w fun e w' => ∃ v4_ : Value, e = .returned (.agg #[.int .i64 r1, .int .i64 r2, .int .i64 r3, .string r4, v4_]) ∧ Kd.R k24 24 w' w.heap.size (fun _ => True) v4_ r5 ∧ Below w.heap.size w w' := by
 have hu24 := Try.underlying24
 have HR1 := am hr1
 have HC1 := am hc1
 clear hr1 hc1
 have HB := am (Below.refl w.heap.size w)
 have H : ((codec_clone.f k a0 3 0 (⟨#[]⟩ : ByteArray) l1).bind fun bt269 => (some (bt269.1, bt269.2.1, bt269.2.2.1, bt269.2.2.2.1, bt269.2.2.2.2))) = some (r1, r2, r3, r4, r5) := h
 clear h
 replace H := Option.bind_eq_some_iff.mp H
 obtain ⟨⟨t269, t270, t271, t272, t273⟩, A30, H⟩ := H
 replace H : (some (t269, t270, t271, t272, t273)) = some (r1, r2, r3, r4, r5) := H
 have A3 := am A30
 clear A30
 simp only [Option.some.injEq, Prod.mk.injEq] at H
 obtain ⟨rfl, rfl, rfl, rfl, rfl⟩ := H
 go_enter Try.func19, Try.ntmps19
 go_wp2_with (first | ((with_reducible refine gate_dst (N := 4) rfl ?_); refine box_event ?hg (N := 4) ?hd (cs := #[.int .i64 0, .int .i64 0, .int .i64 0, .string (⟨#[]⟩ : ByteArray), .slice none 0 0]) (t := 24) ?hr ?_; (case hd => rfl); (case hg => rfl); (case hr => exact gz); intro gb268 hg w4 hbox hb; have BK268 := am (hbox); have GW268 := am ((bs hg (hz HB.out) : w.heap.size ≤ gb268)); have GE268 := am ((bs hg (hz HB.out) : w.heap.size ≤ gb268)); replace HB := am (below_step (hz HB.out) hb); clear hb hbox hg) | ((with_reducible refine gate_callee (f := 29) rfl ?_); refine goesL_ (some 8) rfl rfl Try.func29 (by kernel_rfl) rfl #[.agg #[.int .i64 a0, .int .i64 3, .int .i64 0, .string (⟨#[]⟩ : ByteArray), .slice A1 l1.length c1]] rfl lz ?_; (with_reducible refine (codec_clone.calls k a0 3 0 (⟨#[]⟩ : ByteArray) _ _ l1 t269 t270 t271 t272 t273 _ ?side1 ?side2 A3.out).mono ?_); (case side1 => exact cz (Kd.C_below HR1.out HB.out)); (case side2 => exact HC1.out); rintro e w5 ⟨v274, rfl, ho0, hb⟩; refine ⟨_, rfl, ?_⟩; have HO275 := am (Kd.R_lower (Kd.R_newB ho0 (g := gb268) (o := .cells #[.int .i64 0, .int .i64 0, .int .i64 0, .string (⟨#[]⟩ : ByteArray), .slice none 0 0] 24 (0, 0)) (bz BK268.out)) (below_size (hz1 HB.out GE268.out))); replace BK268 := am (blk_below (g := gb268) (o := .cells #[.int .i64 0, .int .i64 0, .int .i64 0, .string (⟨#[]⟩ : ByteArray), .slice none 0 0] 24 (0, 0)) (bz BK268.out) hb); replace HB := am (below_step (hz1 HB.out GE268.out) hb); (try clear hb); (try clear hb2); (try clear hk); (try clear hi); (try clear ho0); obtain ⟨hcz6_0, hcz6_1, hcz6_2, hcz6_3, hcz6_4⟩ := cs5 BK268.out; obtain ⟨hfz6_0, hfz6_1, hfz6_2, hfz6_3, hfz6_4⟩ := fs5 BK268.out; obtain ⟨Ao7, co7, eo7⟩ := Kd.R_slice HO275.out; subst eo7))
 refine bodyPost_ret (results_cell_row rfl _ _ gb268 24 #[.int .i64 t269, .int .i64 t270, .int .i64 t271, .string t272, .slice Ao7 t273.length co7] (0, 0) _ rfl (by (with_reducible repeat (first | refine blk_drewN ?_ _ | refine blk_drew ?_ | refine blk_alloc ?_ _)); refine blk_put (cs := #[.int .i64 t269, .int .i64 t270, .int .i64 t271, .string t272, .slice none 0 0]) ?_ 4 _ rfl; (with_reducible repeat (first | refine blk_drewN ?_ _ | refine blk_drew ?_ | refine blk_alloc ?_ _)); refine blk_put (cs := #[.int .i64 t269, .int .i64 t270, .int .i64 t271, .string (⟨#[]⟩ : ByteArray), .slice none 0 0]) ?_ 3 _ rfl; (with_reducible repeat (first | refine blk_drewN ?_ _ | refine blk_drew ?_ | refine blk_alloc ?_ _)); refine blk_put (cs := #[.int .i64 t269, .int .i64 t270, .int .i64 0, .string (⟨#[]⟩ : ByteArray), .slice none 0 0]) ?_ 2 _ rfl; (with_reducible repeat (first | refine blk_drewN ?_ _ | refine blk_drew ?_ | refine blk_alloc ?_ _)); refine blk_put (cs := #[.int .i64 t269, .int .i64 0, .int .i64 0, .string (⟨#[]⟩ : ByteArray), .slice none 0 0]) ?_ 1 _ rfl; (with_reducible repeat (first | refine blk_drewN ?_ _ | refine blk_drew ?_ | refine blk_alloc ?_ _)); refine blk_put (cs := #[.int .i64 0, .int .i64 0, .int .i64 0, .string (⟨#[]⟩ : ByteArray), .slice none 0 0]) ?_ 0 _ rfl; (with_reducible repeat (first | refine blk_drewN ?_ _ | refine blk_drew ?_ | refine blk_alloc ?_ _)); exact BK268.out) Try.underlying24 rfl (by kernel_rfl)) rfl ?_
 exact ⟨_, by first | rfl | (simp [errW_none, errW_some] <;> rfl) | (simp [*, errW_none, errW_some] <;> rfl), by (with_reducible repeat (first | apply Kd.R_alloc | apply Kd.R_drewN | apply Kd.R_drew)); exact Kd.R_mono (Kd.R_far (p := ⟨gb268, 4, none⟩) (Kd.R_far (p := ⟨gb268, 3, none⟩) (Kd.R_far (p := ⟨gb268, 2, none⟩) (Kd.R_far (p := ⟨gb268, 1, none⟩) (Kd.R_far (p := ⟨gb268, 0, none⟩) (Kd.R_mono HO275.out (fun k_ hk => (⟨hk, hk.2⟩ : _ ∧ k_ ≠ gb268))) (fun _ hk => hk.2) (.int .i64 t269)) (fun _ hk => hk.2) (.int .i64 t270)) (fun _ hk => hk.2) (.int .i64 t271)) (fun _ hk => hk.2) (.string t272)) (fun _ hk => hk.2) (.slice Ao7 t273.length co7)) (fun _ hk => trivial), hz1 HB.out GE268.out⟩

/-! ### codec_Int: function 20 -/
def codec_Int.f (a0 : Int) (a1 : Int) : Option (Int × Int × Int × ByteArray × (List (S24))) := some (a0, 1, a1, (⟨#[]⟩ : ByteArray), ([] : List (S24)))
set_option maxHeartbeats 8000000 in
set_option maxRecDepth 100000 in
theorem codec_Int.calls (a0 : Int) (a1 : Int) (r1 : Int) (r2 : Int) (r3 : Int) (r4 : ByteArray) (r5 : List (S24)) (w : World) (h : codec_Int.f a0 a1 = some (r1, r2, r3, r4, r5)) :
  Calls Try.prog 20 #[.int .i64 a0, .int .i64 a1] w fun e w' => ∃ v4_ : Value, e = .returned (.agg #[.int .i64 r1, .int .i64 r2, .int .i64 r3, .string r4, v4_]) ∧ Kd.R k24 24 w' w.heap.size (fun _ => True) v4_ r5 ∧ Below w.heap.size w w' := by
 have hu24 := Try.underlying24
 have HB := am (Below.refl w.heap.size w)
 have H : (some (a0, 1, a1, (⟨#[]⟩ : ByteArray), ([] : List (S24)))) = some (r1, r2, r3, r4, r5) := h
 clear h
 simp only [Option.some.injEq, Prod.mk.injEq] at H
 obtain ⟨rfl, rfl, rfl, rfl, rfl⟩ := H
 go_enter Try.func20, Try.ntmps20
 go_wp2_with (first | ((with_reducible refine gate_dst (N := 4) rfl ?_); refine box_event ?hg (N := 4) ?hd (cs := #[.int .i64 0, .int .i64 0, .int .i64 0, .string (⟨#[]⟩ : ByteArray), .slice none 0 0]) (t := 24) ?hr ?_; (case hd => rfl); (case hg => rfl); (case hr => exact gz); intro gb276 hg w3 hbox hb; have BK276 := am (hbox); have GW276 := am ((bs hg (hz HB.out) : w.heap.size ≤ gb276)); have GE276 := am ((bs hg (hz HB.out) : w.heap.size ≤ gb276)); replace HB := am (below_step (hz HB.out) hb); clear hb hbox hg; obtain ⟨hcz4_0, hcz4_1, hcz4_2, hcz4_3, hcz4_4⟩ := cs5 BK276.out; obtain ⟨hfz4_0, hfz4_1, hfz4_2, hfz4_3, hfz4_4⟩ := fs5 BK276.out))
 refine bodyPost_ret (results_cell_row rfl _ _ gb276 24 #[.int .i64 a0, .int .i64 1, .int .i64 a1, .string (⟨#[]⟩ : ByteArray), .slice none 0 0] (0, 0) _ rfl (by (with_reducible repeat (first | refine blk_drewN ?_ _ | refine blk_drew ?_ | refine blk_alloc ?_ _)); refine blk_put (cs := #[.int .i64 a0, .int .i64 1, .int .i64 a1, .string (⟨#[]⟩ : ByteArray), .slice none 0 0]) ?_ 4 _ rfl; (with_reducible repeat (first | refine blk_drewN ?_ _ | refine blk_drew ?_ | refine blk_alloc ?_ _)); refine blk_put (cs := #[.int .i64 a0, .int .i64 1, .int .i64 a1, .string (⟨#[]⟩ : ByteArray), .slice none 0 0]) ?_ 3 _ rfl; (with_reducible repeat (first | refine blk_drewN ?_ _ | refine blk_drew ?_ | refine blk_alloc ?_ _)); refine blk_put (cs := #[.int .i64 a0, .int .i64 1, .int .i64 0, .string (⟨#[]⟩ : ByteArray), .slice none 0 0]) ?_ 2 _ rfl; (with_reducible repeat (first | refine blk_drewN ?_ _ | refine blk_drew ?_ | refine blk_alloc ?_ _)); refine blk_put (cs := #[.int .i64 a0, .int .i64 0, .int .i64 0, .string (⟨#[]⟩ : ByteArray), .slice none 0 0]) ?_ 1 _ rfl; (with_reducible repeat (first | refine blk_drewN ?_ _ | refine blk_drew ?_ | refine blk_alloc ?_ _)); refine blk_put (cs := #[.int .i64 0, .int .i64 0, .int .i64 0, .string (⟨#[]⟩ : ByteArray), .slice none 0 0]) ?_ 0 _ rfl; (with_reducible repeat (first | refine blk_drewN ?_ _ | refine blk_drew ?_ | refine blk_alloc ?_ _)); exact BK276.out) Try.underlying24 rfl (by kernel_rfl)) rfl ?_
 exact ⟨_, by first | rfl | (simp [errW_none, errW_some] <;> rfl) | (simp [*, errW_none, errW_some] <;> rfl), by first | exact Kd.R_nil _ _ _ _ _ | exact Kd.N_nil _ _ _ _ _ | exact Kd.V_nil _ _ _ _ _ | exact Kd.Q_nil _ _ _ _ _ | exact Kd.S_nil _ _ _ _ _, hz1 HB.out GE276.out⟩

/-! ### codec_String: function 21 -/
def codec_String.f (a0 : Int) (a1 : ByteArray) : Option (Int × Int × Int × ByteArray × (List (S24))) := some (a0, 2, 0, a1, ([] : List (S24)))
set_option maxHeartbeats 8000000 in
set_option maxRecDepth 100000 in
theorem codec_String.calls (a0 : Int) (a1 : ByteArray) (r1 : Int) (r2 : Int) (r3 : Int) (r4 : ByteArray) (r5 : List (S24)) (w : World) (h : codec_String.f a0 a1 = some (r1, r2, r3, r4, r5)) :
  Calls Try.prog 21 #[.int .i64 a0, .string a1] w fun e w' => ∃ v4_ : Value, e = .returned (.agg #[.int .i64 r1, .int .i64 r2, .int .i64 r3, .string r4, v4_]) ∧ Kd.R k24 24 w' w.heap.size (fun _ => True) v4_ r5 ∧ Below w.heap.size w w' := by
 have hu24 := Try.underlying24
 have HB := am (Below.refl w.heap.size w)
 have H : (some (a0, 2, 0, a1, ([] : List (S24)))) = some (r1, r2, r3, r4, r5) := h
 clear h
 simp only [Option.some.injEq, Prod.mk.injEq] at H
 obtain ⟨rfl, rfl, rfl, rfl, rfl⟩ := H
 go_enter Try.func21, Try.ntmps21
 go_wp2_with (first | ((with_reducible refine gate_dst (N := 4) rfl ?_); refine box_event ?hg (N := 4) ?hd (cs := #[.int .i64 0, .int .i64 0, .int .i64 0, .string (⟨#[]⟩ : ByteArray), .slice none 0 0]) (t := 24) ?hr ?_; (case hd => rfl); (case hg => rfl); (case hr => exact gz); intro gb277 hg w3 hbox hb; have BK277 := am (hbox); have GW277 := am ((bs hg (hz HB.out) : w.heap.size ≤ gb277)); have GE277 := am ((bs hg (hz HB.out) : w.heap.size ≤ gb277)); replace HB := am (below_step (hz HB.out) hb); clear hb hbox hg; obtain ⟨hcz4_0, hcz4_1, hcz4_2, hcz4_3, hcz4_4⟩ := cs5 BK277.out; obtain ⟨hfz4_0, hfz4_1, hfz4_2, hfz4_3, hfz4_4⟩ := fs5 BK277.out))
 refine bodyPost_ret (results_cell_row rfl _ _ gb277 24 #[.int .i64 a0, .int .i64 2, .int .i64 0, .string a1, .slice none 0 0] (0, 0) _ rfl (by (with_reducible repeat (first | refine blk_drewN ?_ _ | refine blk_drew ?_ | refine blk_alloc ?_ _)); refine blk_put (cs := #[.int .i64 a0, .int .i64 2, .int .i64 0, .string a1, .slice none 0 0]) ?_ 4 _ rfl; (with_reducible repeat (first | refine blk_drewN ?_ _ | refine blk_drew ?_ | refine blk_alloc ?_ _)); refine blk_put (cs := #[.int .i64 a0, .int .i64 2, .int .i64 0, .string (⟨#[]⟩ : ByteArray), .slice none 0 0]) ?_ 3 _ rfl; (with_reducible repeat (first | refine blk_drewN ?_ _ | refine blk_drew ?_ | refine blk_alloc ?_ _)); refine blk_put (cs := #[.int .i64 a0, .int .i64 2, .int .i64 0, .string (⟨#[]⟩ : ByteArray), .slice none 0 0]) ?_ 2 _ rfl; (with_reducible repeat (first | refine blk_drewN ?_ _ | refine blk_drew ?_ | refine blk_alloc ?_ _)); refine blk_put (cs := #[.int .i64 a0, .int .i64 0, .int .i64 0, .string (⟨#[]⟩ : ByteArray), .slice none 0 0]) ?_ 1 _ rfl; (with_reducible repeat (first | refine blk_drewN ?_ _ | refine blk_drew ?_ | refine blk_alloc ?_ _)); refine blk_put (cs := #[.int .i64 0, .int .i64 0, .int .i64 0, .string (⟨#[]⟩ : ByteArray), .slice none 0 0]) ?_ 0 _ rfl; (with_reducible repeat (first | refine blk_drewN ?_ _ | refine blk_drew ?_ | refine blk_alloc ?_ _)); exact BK277.out) Try.underlying24 rfl (by kernel_rfl)) rfl ?_
 exact ⟨_, by first | rfl | (simp [errW_none, errW_some] <;> rfl) | (simp [*, errW_none, errW_some] <;> rfl), by first | exact Kd.R_nil _ _ _ _ _ | exact Kd.N_nil _ _ _ _ _ | exact Kd.V_nil _ _ _ _ _ | exact Kd.Q_nil _ _ _ _ _ | exact Kd.S_nil _ _ _ _ _, hz1 HB.out GE277.out⟩

/-! ### codec_Find: function 22 -/
def codec_Find.l0 : Nat → Int → List (S24) → Int → Int → Option (Int × Int × Int × ByteArray × (List (S24)) × Bool)
 | 0, _, _, _, _ => none
 | k + 1, x1, x9, x10, x11 => if x11 < x10 then (if 0 ≤ x11 then (if x11 < (x9.length : Int) then (if ((rd_T24 x9 x11).f0) = x1 then ((codec_clone.f k ((rd_T24 x9 x11).f0) ((rd_T24 x9 x11).f1) ((rd_T24 x9 x11).f2) ((rd_T24 x9 x11).f3) ((rd_T24 x9 x11).f4)).bind fun bt282 => (some (bt282.1, bt282.2.1, bt282.2.2.1, bt282.2.2.2.1, bt282.2.2.2.2, true))) else (codec_Find.l0 k x1 x9 x10 (wrap64 (x11 + 1)))) else (none)) else (none)) else (some (0, 0, 0, (⟨#[]⟩ : ByteArray), ([] : List (S24)), false))
def codec_Find.f (k : Nat) (a0_0 : Int) (a0_1 : Int) (a0_2 : Int) (a0_3 : ByteArray) (l0_4 : List (S24)) (a1 : Int) : Option (Int × Int × Int × ByteArray × (List (S24)) × Bool) := codec_Find.l0 k a1 l0_4 (l0_4.length : Int) 0
theorem codec_Find.mono_l : ∀ k, (∀ y0 y1 y2 y3, LeO (codec_Find.l0 k y0 y1 y2 y3) (codec_Find.l0 (k + 1) y0 y1 y2 y3))
 | 0 => fun _ _ _ _ r h => by simp [codec_Find.l0] at h
 | k + 1 => by
  have ih0 := codec_Find.mono_l k
  ·
   intro y0 y1 y2 y3
   unfold codec_Find.l0
   repeat' first
   | (with_reducible exact ih0 _ _ _ _)
   | (with_reducible exact codec_clone.mono _ _ _ _ _ _)
   | (with_reducible exact LeO.refl _)
   | (with_reducible exact LeO.none _)
   | (with_reducible refine LeO.ite ?_ ?_)
   | (with_reducible refine LeO.bind ?_ (fun _ => ?_))
   | exact ih0 _ _ _ _
   | exact codec_clone.mono _ _ _ _ _ _
   | exact LeO.none _
   | refine LeO.ite ?_ ?_
   | refine LeO.bind ?_ (fun _ => ?_)
theorem codec_Find.mono : ∀ a0 a1 a2 a3 a4 a5 k, LeO (codec_Find.f k a0 a1 a2 a3 a4 a5) (codec_Find.f (k + 1) a0 a1 a2 a3 a4 a5) := by
 intro a0 a1 a2 a3 a4 a5 k
 have ih0 := codec_Find.mono_l k
 unfold codec_Find.f
 repeat' first
   | (with_reducible exact ih0 _ _ _ _)
   | (with_reducible exact codec_clone.mono _ _ _ _ _ _)
   | (with_reducible exact LeO.refl _)
   | (with_reducible exact LeO.none _)
   | (with_reducible refine LeO.ite ?_ ?_)
   | (with_reducible refine LeO.bind ?_ (fun _ => ?_))
   | exact ih0 _ _ _ _
   | exact codec_clone.mono _ _ _ _ _ _
   | exact LeO.none _
   | refine LeO.ite ?_ ?_
   | refine LeO.bind ?_ (fun _ => ?_)
set_option maxHeartbeats 8000000 in
set_option maxRecDepth 100000 in
theorem codec_Find.calls (k : Nat) (a0_0 : Int) (a0_1 : Int) (a0_2 : Int) (a0_3 : ByteArray) (A0_4 : Option Addr) (c0_4 : Nat) (l0_4 : List (S24)) (a1 : Int) (r1 : Int) (r2 : Int) (r3 : Int) (r4 : ByteArray) (r5 : List (S24)) (r6 : Bool) (w : World) (hr0_4 : Kd.C k24 w A0_4 l0_4.length l0_4) (hc0_4 : l0_4.length ≤ c0_4) (h : codec_Find.f k a0_0 a0_1 a0_2 a0_3 l0_4 a1 = some (r1, r2, r3, r4, r5, r6)) :
  Calls Try.prog 22 #[.agg #[.int .i64 a0_0, .int .i64 a0_1, .int .i64 a0_2, .string a0_3, .slice A0_4 l0_4.length c0_4], .int .i64 a1] w fun e w' => ∃ v4_ : Value, e = .returned (.tuple #[.agg #[.int .i64 r1, .int .i64 r2, .int .i64 r3, .string r4, v4_], .bool r6]) ∧ Kd.R k24 24 w' w.heap.size (fun _ => True) v4_ r5 ∧ Below w.heap.size w w' := by
 have hu24 := Try.underlying24
 have HR0_4 := am hr0_4
 have HC0_4 := am hc0_4
 clear hr0_4 hc0_4
 have HB := am (Below.refl w.heap.size w)
 have H : (codec_Find.l0 k a1 l0_4 (l0_4.length : Int) 0) = some (r1, r2, r3, r4, r5, r6) := h
 clear h
 have H' := am H
 clear H
 go_enter Try.func22, Try.ntmps22
 go_wp2_with (first | ((with_reducible refine gate_dst (N := 2) rfl ?_); refine box_event ?hg (N := 2) ?hd (cs := #[.int .i64 a0_0, .int .i64 a0_1, .int .i64 a0_2, .string a0_3, .slice A0_4 l0_4.length c0_4]) (t := 24) ?hr ?_; (case hd => rfl); (case hg => rfl); (case hr => exact gz); intro gb278 hg w3 hbox hb; have BK278 := am (hbox); have GW278 := am ((bs hg (hz HB.out) : w.heap.size ≤ gb278)); have GE278 := am ((bs hg (hz HB.out) : w.heap.size ≤ gb278)); replace HB := am (below_step (hz HB.out) hb); clear hb hbox hg) | ((with_reducible refine gate_dst (N := 4) rfl ?_); refine box_event ?hg (N := 4) ?hd (cs := #[.int .i64 0, .int .i64 0, .int .i64 0, .string (⟨#[]⟩ : ByteArray), .slice none 0 0]) (t := 24) ?hr ?_; (case hd => rfl); (case hg => rfl); (case hr => exact gz); intro gb279 hg w4 hbox hb; have BK279 := am (hbox); have GW279 := am ((bs hg (hz1 HB.out GE278.out) : w.heap.size ≤ gb279)); have GE279 := am ((bs hg (hz1 HB.out GE278.out) : w.heap.size ≤ gb279)); replace HB := am (below_step (hz1 HB.out GE278.out) hb); have NB278_279 := am ((nl hg (bz BK278.out) : gb278 ≠ gb279)); have NB279_278 := am ((ng hg (bz BK278.out) : gb279 ≠ gb278)); replace BK278 := am (blk_below (bz BK278.out) hb); clear hb hbox hg; have hnb5 := NB278_279.out; have hnc5 := NB279_278.out; obtain ⟨hcz6_0, hcz6_1, hcz6_2, hcz6_3, hcz6_4⟩ := cs5 BK278.out; obtain ⟨hfz6_0, hfz6_1, hfz6_2, hfz6_3, hfz6_4⟩ := fs5 BK278.out))
 go_loopg [11] k (fun kq v11 w' => ∃ (x11_1 : Int) (x280000_1 : Int) (x280001_1 : Int) (x280002_1 : Int) (x280003_1 : ByteArray), v11 = .int .i64 x11_1 ∧ Aside0 (codec_Find.l0 kq a1 l0_4 (l0_4.length : Int) x11_1 = some (r1, r2, r3, r4, r5, r6)) ∧ Aside0 (kq ≤ k) ∧ Aside0 (w'.heap[gb278]? = some (.cells #[.int .i64 a0_0, .int .i64 a0_1, .int .i64 a0_2, .string a0_3, (.slice A0_4 l0_4.length c0_4)] 24 (0, 0))) ∧ Aside0 (w'.heap[gb279]? = some (.cells #[.int .i64 x280000_1, .int .i64 x280001_1, .int .i64 x280002_1, .string x280003_1, (.slice none 0 0)] 24 (0, 0))) ∧ Aside0 (Below w.heap.size w w'))
 case atStart => exact ⟨(0), (0), (0), (0), ((⟨#[]⟩ : ByteArray)), (by first | rfl | (simp; done) | (simp [*]; done)), H', ⟨Nat.le_refl _⟩, ⟨by (with_reducible repeat (first | refine blk_drewN ?_ _ | refine blk_drew ?_ | refine blk_alloc ?_ _)); exact BK278.out⟩, ⟨by (with_reducible repeat (first | refine blk_drewN ?_ _ | refine blk_drew ?_ | refine blk_alloc ?_ _)); exact BK279.out⟩, ⟨hz2 HB.out GE278.out GE279.out⟩⟩
 case round =>
  clear H'
  try clear c2
  try clear p2
  try clear c5
  try clear hcz6_0
  try clear hcz6_1
  try clear hcz6_2
  try clear hcz6_3
  try clear hcz6_4
  try clear hfz6_0
  try clear hfz6_1
  try clear hfz6_2
  try clear hfz6_3
  try clear hfz6_4
  obtain ⟨x11_1, x280000_1, x280001_1, x280002_1, x280003_1, rfl, HA, HK1, BK278, BK279, HB⟩ := hrel
  cases gk with
  | zero => exact absurd HA.out (by simp [codec_Find.l0])
  | succ k1 =>
   have H := HA.out
   clear HA
   simp only [codec_Find.l0] at H
   by_cases c7 : x11_1 < (l0_4.length : Int)
   ·
    rw [if_pos c7] at H
    have c7b0 : decide (x11_1 < (l0_4.length : Int)) = true := decide_eq_true c7
    clear c7
    replace H := it_ H
    obtain ⟨c8, H⟩ := H
    have c8b0 : decide (0 ≤ x11_1) = true := decide_eq_true c8
    clear c8
    replace H := it_ H
    obtain ⟨c9, H⟩ := H
    have c9b0 : decide (x11_1 < (l0_4.length : Int)) = true := decide_eq_true c9
    clear c9
    by_cases c10 : ((rd_T24 l0_4 x11_1).f0) = a1
    ·
     rw [if_pos c10] at H
     have c10b0 : (((rd_T24 l0_4 x11_1).f0) == a1) = true := beq_iff_eq.mpr c10
     have c10b1 : (((rd_T24 l0_4 x11_1).f0) != a1) = false := bne_eq_false_iff_eq.mpr c10
     clear c10
     replace H := Option.bind_eq_some_iff.mp H
     obtain ⟨⟨t282, t283, t284, t285, t286⟩, A110, H⟩ := H
     replace H : (some (t282, t283, t284, t285, t286, true)) = some (r1, r2, r3, r4, r5, r6) := H
     have A11 := am A110
     clear A110
     simp only [Option.some.injEq, Prod.mk.injEq] at H
     obtain ⟨rfl, rfl, rfl, rfl, rfl, rfl⟩ := H
     have p280 : 0 ≤ (x11_1 : Int) := of_decide_eq_true az
     have q280 : x11_1 < (l0_4.length : Int) := of_decide_eq_true az
     obtain ⟨ad280, A280_4, c280_4, e280, hx280_0, hx280_1, hx280_2, hx280_3, hx280_4, hl280_4, hi280_4⟩ := at_T24 HR0_4.out x11_1 p280 q280
     cases e280
     replace hx280_0 := (HB.out.cell (World.block_lt_of_cell? w _ hx280_0)).trans hx280_0
     replace hx280_1 := (HB.out.cell (World.block_lt_of_cell? w _ hx280_1)).trans hx280_1
     replace hx280_2 := (HB.out.cell (World.block_lt_of_cell? w _ hx280_2)).trans hx280_2
     replace hx280_3 := (HB.out.cell (World.block_lt_of_cell? w _ hx280_3)).trans hx280_3
     replace hx280_4 := (HB.out.cell (World.block_lt_of_cell? w _ hx280_4)).trans hx280_4
     have HR280_4 := am hi280_4
     have HC280_4 := am hl280_4
     clear hi280_4 hl280_4
     replace p280 := eq_true p280
     replace q280 := eq_true q280
     go_wp2_with (first | ((with_reducible refine gate_dst (N := 7) rfl ?_); refine box_event ?hg (N := 7) ?hd (cs := #[.int .i64 0, .int .i64 0, .int .i64 0, .string (⟨#[]⟩ : ByteArray), .slice none 0 0]) (t := 24) ?hr ?_; (case hd => rfl); (case hg => rfl); (case hr => exact gz); intro gb281 hg w12 hbox hb; have BK281 := am (hbox); have GW281 := am ((bs hg (hz2 HB.out GE278.out GE279.out) : w.heap.size ≤ gb281)); have GE281 := am ((bs hg (hz2 HB.out GE278.out GE279.out) : w.heap.size ≤ gb281)); replace HB := am (below_step (hz2 HB.out GE278.out GE279.out) hb); have NB278_281 := am ((nl hg (bz BK278.out) : gb278 ≠ gb281)); have NB281_278 := am ((ng hg (bz BK278.out) : gb281 ≠ gb278)); replace BK278 := am (blk_below (bz BK278.out) hb); have NB279_281 := am ((nl hg (bz BK279.out) : gb279 ≠ gb281)); have NB281_279 := am ((ng hg (bz BK279.out) : gb281 ≠ gb279)); replace BK279 := am (blk_below (bz BK279.out) hb); clear hb hbox hg; have hnb13 := NB281_278.out; have hnc13 := NB278_281.out; have hnb14 := NB281_279.out; have hnc14 := NB279_281.out; obtain ⟨hcz15_0, hcz15_1, hcz15_2, hcz15_3, hcz15_4⟩ := cs5 BK281.out; obtain ⟨hfz15_0, hfz15_1, hfz15_2, hfz15_3, hfz15_4⟩ := fs5 BK281.out) | ((with_reducible refine gate_callee (f := 29) rfl ?_); refine goesL_ (some 20) rfl rfl Try.func29 (by kernel_rfl) rfl #[.agg #[.int .i64 ((rd_T24 l0_4 x11_1).f0), .int .i64 ((rd_T24 l0_4 x11_1).f1), .int .i64 ((rd_T24 l0_4 x11_1).f2), .string ((rd_T24 l0_4 x11_1).f3), .slice A280_4 ((rd_T24 l0_4 x11_1).f4).length c280_4]] rfl lz ?_; (with_reducible refine (codec_clone.calls k1 ((rd_T24 l0_4 x11_1).f0) ((rd_T24 l0_4 x11_1).f1) ((rd_T24 l0_4 x11_1).f2) ((rd_T24 l0_4 x11_1).f3) _ _ ((rd_T24 l0_4 x11_1).f4) t282 t283 t284 t285 t286 _ ?side1 ?side2 A11.out).mono ?_); (case side1 => exact Kd.C_below HR280_4.out (hz3 HB.out GE278.out GE279.out GE281.out)); (case side2 => exact HC280_4.out); rintro e w16 ⟨v287, rfl, ho0, hb⟩; refine ⟨_, rfl, ?_⟩; have HO288 := am (Kd.R_lower (Kd.R_newB (Kd.R_newB (Kd.R_newB ho0 (g := gb278) (o := .cells #[.int .i64 a0_0, .int .i64 a0_1, .int .i64 a0_2, .string a0_3, .slice (some ad280) l0_4.length c0_4] 24 (0, 0)) (bf1 NB278_281.out BK278.out)) (g := gb279) (o := .cells #[.int .i64 x280000_1, .int .i64 x280001_1, .int .i64 x280002_1, .string x280003_1, .slice none 0 0] 24 (0, 0)) (bf1 NB279_281.out BK279.out)) (g := gb281) (o := .cells #[.int .i64 ((rd_T24 l0_4 x11_1).f0), .int .i64 ((rd_T24 l0_4 x11_1).f1), .int .i64 ((rd_T24 l0_4 x11_1).f2), .string ((rd_T24 l0_4 x11_1).f3), .slice A280_4 ((rd_T24 l0_4 x11_1).f4).length c280_4] 24 (0, 0)) (by (with_reducible repeat (first | refine blk_drewN ?_ _ | refine blk_drew ?_ | refine blk_alloc ?_ _)); refine blk_put (cs := #[.int .i64 ((rd_T24 l0_4 x11_1).f0), .int .i64 ((rd_T24 l0_4 x11_1).f1), .int .i64 ((rd_T24 l0_4 x11_1).f2), .string ((rd_T24 l0_4 x11_1).f3), .slice none 0 0]) ?_ 4 _ rfl; (with_reducible repeat (first | refine blk_drewN ?_ _ | refine blk_drew ?_ | refine blk_alloc ?_ _)); refine blk_put (cs := #[.int .i64 ((rd_T24 l0_4 x11_1).f0), .int .i64 ((rd_T24 l0_4 x11_1).f1), .int .i64 ((rd_T24 l0_4 x11_1).f2), .string (⟨#[]⟩ : ByteArray), .slice none 0 0]) ?_ 3 _ rfl; (with_reducible repeat (first | refine blk_drewN ?_ _ | refine blk_drew ?_ | refine blk_alloc ?_ _)); refine blk_put (cs := #[.int .i64 ((rd_T24 l0_4 x11_1).f0), .int .i64 ((rd_T24 l0_4 x11_1).f1), .int .i64 0, .string (⟨#[]⟩ : ByteArray), .slice none 0 0]) ?_ 2 _ rfl; (with_reducible repeat (first | refine blk_drewN ?_ _ | refine blk_drew ?_ | refine blk_alloc ?_ _)); refine blk_put (cs := #[.int .i64 ((rd_T24 l0_4 x11_1).f0), .int .i64 0, .int .i64 0, .string (⟨#[]⟩ : ByteArray), .slice none 0 0]) ?_ 1 _ rfl; (with_reducible repeat (first | refine blk_drewN ?_ _ | refine blk_drew ?_ | refine blk_alloc ?_ _)); refine blk_put (cs := #[.int .i64 0, .int .i64 0, .int .i64 0, .string (⟨#[]⟩ : ByteArray), .slice none 0 0]) ?_ 0 _ rfl; (with_reducible repeat (first | refine blk_drewN ?_ _ | refine blk_drew ?_ | refine blk_alloc ?_ _)); exact BK281.out)) (below_size (hz3 HB.out GE278.out GE279.out GE281.out))); replace BK278 := am (blk_below (bf1 NB278_281.out BK278.out) hb); replace BK279 := am (blk_below (bf1 NB279_281.out BK279.out) hb); replace BK281 := am (blk_below (g := gb281) (o := .cells #[.int .i64 ((rd_T24 l0_4 x11_1).f0), .int .i64 ((rd_T24 l0_4 x11_1).f1), .int .i64 ((rd_T24 l0_4 x11_1).f2), .string ((rd_T24 l0_4 x11_1).f3), .slice A280_4 ((rd_T24 l0_4 x11_1).f4).length c280_4] 24 (0, 0)) (by (with_reducible repeat (first | refine blk_drewN ?_ _ | refine blk_drew ?_ | refine blk_alloc ?_ _)); refine blk_put (cs := #[.int .i64 ((rd_T24 l0_4 x11_1).f0), .int .i64 ((rd_T24 l0_4 x11_1).f1), .int .i64 ((rd_T24 l0_4 x11_1).f2), .string ((rd_T24 l0_4 x11_1).f3), .slice none 0 0]) ?_ 4 _ rfl; (with_reducible repeat (first | refine blk_drewN ?_ _ | refine blk_drew ?_ | refine blk_alloc ?_ _)); refine blk_put (cs := #[.int .i64 ((rd_T24 l0_4 x11_1).f0), .int .i64 ((rd_T24 l0_4 x11_1).f1), .int .i64 ((rd_T24 l0_4 x11_1).f2), .string (⟨#[]⟩ : ByteArray), .slice none 0 0]) ?_ 3 _ rfl; (with_reducible repeat (first | refine blk_drewN ?_ _ | refine blk_drew ?_ | refine blk_alloc ?_ _)); refine blk_put (cs := #[.int .i64 ((rd_T24 l0_4 x11_1).f0), .int .i64 ((rd_T24 l0_4 x11_1).f1), .int .i64 0, .string (⟨#[]⟩ : ByteArray), .slice none 0 0]) ?_ 2 _ rfl; (with_reducible repeat (first | refine blk_drewN ?_ _ | refine blk_drew ?_ | refine blk_alloc ?_ _)); refine blk_put (cs := #[.int .i64 ((rd_T24 l0_4 x11_1).f0), .int .i64 0, .int .i64 0, .string (⟨#[]⟩ : ByteArray), .slice none 0 0]) ?_ 1 _ rfl; (with_reducible repeat (first | refine blk_drewN ?_ _ | refine blk_drew ?_ | refine blk_alloc ?_ _)); refine blk_put (cs := #[.int .i64 0, .int .i64 0, .int .i64 0, .string (⟨#[]⟩ : ByteArray), .slice none 0 0]) ?_ 0 _ rfl; (with_reducible repeat (first | refine blk_drewN ?_ _ | refine blk_drew ?_ | refine blk_alloc ?_ _)); exact BK281.out) hb); replace HB := am (below_step (hz3 HB.out GE278.out GE279.out GE281.out) hb); (try clear hb); (try clear hb2); (try clear hk); (try clear hi); (try clear ho0); have hnb17 := NB279_278.out; have hnc17 := NB278_279.out; obtain ⟨hcz18_0, hcz18_1, hcz18_2, hcz18_3, hcz18_4⟩ := cs5 BK279.out; obtain ⟨hfz18_0, hfz18_1, hfz18_2, hfz18_3, hfz18_4⟩ := fs5 BK279.out; obtain ⟨Ao19, co19, eo19⟩ := Kd.R_slice HO288.out; subst eo19))
     refine bodyPost_ret (results_ct rfl _ _ gb279 24 #[.int .i64 t282, .int .i64 t283, .int .i64 t284, .string t285, .slice Ao19 t286.length co19] (0, 0) _ rfl (by (with_reducible repeat (first | refine blk_drewN ?_ _ | refine blk_drew ?_ | refine blk_alloc ?_ _)); refine blk_put (cs := #[.int .i64 t282, .int .i64 t283, .int .i64 t284, .string t285, .slice none 0 0]) ?_ 4 _ rfl; (with_reducible repeat (first | refine blk_drewN ?_ _ | refine blk_drew ?_ | refine blk_alloc ?_ _)); refine blk_put (cs := #[.int .i64 t282, .int .i64 t283, .int .i64 t284, .string x280003_1, .slice none 0 0]) ?_ 3 _ rfl; (with_reducible repeat (first | refine blk_drewN ?_ _ | refine blk_drew ?_ | refine blk_alloc ?_ _)); refine blk_put (cs := #[.int .i64 t282, .int .i64 t283, .int .i64 x280002_1, .string x280003_1, .slice none 0 0]) ?_ 2 _ rfl; (with_reducible repeat (first | refine blk_drewN ?_ _ | refine blk_drew ?_ | refine blk_alloc ?_ _)); refine blk_put (cs := #[.int .i64 t282, .int .i64 x280001_1, .int .i64 x280002_1, .string x280003_1, .slice none 0 0]) ?_ 1 _ rfl; (with_reducible repeat (first | refine blk_drewN ?_ _ | refine blk_drew ?_ | refine blk_alloc ?_ _)); refine blk_put (cs := #[.int .i64 x280000_1, .int .i64 x280001_1, .int .i64 x280002_1, .string x280003_1, .slice none 0 0]) ?_ 0 _ rfl; (with_reducible repeat (first | refine blk_drewN ?_ _ | refine blk_drew ?_ | refine blk_alloc ?_ _)); exact BK279.out) Try.underlying24 rfl (by kernel_rfl)) rfl ?_
     exact ⟨_, by first | rfl | (simp [errW_none, errW_some] <;> rfl) | (simp [*, errW_none, errW_some] <;> rfl), by (with_reducible repeat (first | apply Kd.R_alloc | apply Kd.R_drewN | apply Kd.R_drew)); exact Kd.R_mono (Kd.R_far (p := ⟨gb279, 4, none⟩) (Kd.R_far (p := ⟨gb279, 3, none⟩) (Kd.R_far (p := ⟨gb279, 2, none⟩) (Kd.R_far (p := ⟨gb279, 1, none⟩) (Kd.R_far (p := ⟨gb279, 0, none⟩) (Kd.R_mono HO288.out (fun k_ hk => (⟨hk, hk.1.2⟩ : _ ∧ k_ ≠ gb279))) (fun _ hk => hk.2) (.int .i64 t282)) (fun _ hk => hk.2) (.int .i64 t283)) (fun _ hk => hk.2) (.int .i64 t284)) (fun _ hk => hk.2) (.string t285)) (fun _ hk => hk.2) (.slice Ao19 t286.length co19)) (fun _ hk => trivial), hz3 HB.out GE278.out GE279.out GE281.out⟩
    ·
     rw [if_neg c10] at H
     have c10b0 : (((rd_T24 l0_4 x11_1).f0) == a1) = false := beq_eq_false_iff_ne.mpr c10
     have c10b1 : (((rd_T24 l0_4 x11_1).f0) != a1) = true := bne_iff_ne.mpr c10
     have H' := am H
     clear H
     have p280 : 0 ≤ (x11_1 : Int) := of_decide_eq_true az
     have q280 : x11_1 < (l0_4.length : Int) := of_decide_eq_true az
     obtain ⟨ad280, A280_4, c280_4, e280, hx280_0, hx280_1, hx280_2, hx280_3, hx280_4, hl280_4, hi280_4⟩ := at_T24 HR0_4.out x11_1 p280 q280
     cases e280
     replace hx280_0 := (HB.out.cell (World.block_lt_of_cell? w _ hx280_0)).trans hx280_0
     replace hx280_1 := (HB.out.cell (World.block_lt_of_cell? w _ hx280_1)).trans hx280_1
     replace hx280_2 := (HB.out.cell (World.block_lt_of_cell? w _ hx280_2)).trans hx280_2
     replace hx280_3 := (HB.out.cell (World.block_lt_of_cell? w _ hx280_3)).trans hx280_3
     replace hx280_4 := (HB.out.cell (World.block_lt_of_cell? w _ hx280_4)).trans hx280_4
     have HR280_4 := am hi280_4
     have HC280_4 := am hl280_4
     clear hi280_4 hl280_4
     replace p280 := eq_true p280
     replace q280 := eq_true q280
     go_wp2_with (first | ((with_reducible refine gate_dst (N := 7) rfl ?_); refine box_event ?hg (N := 7) ?hd (cs := #[.int .i64 0, .int .i64 0, .int .i64 0, .string (⟨#[]⟩ : ByteArray), .slice none 0 0]) (t := 24) ?hr ?_; (case hd => rfl); (case hg => rfl); (case hr => exact gz); intro gb281 hg w20 hbox hb; have BK281 := am (hbox); have GW281 := am ((bs hg (hz2 HB.out GE278.out GE279.out) : w.heap.size ≤ gb281)); have GE281 := am ((bs hg (hz2 HB.out GE278.out GE279.out) : w.heap.size ≤ gb281)); replace HB := am (below_step (hz2 HB.out GE278.out GE279.out) hb); have NB278_281 := am ((nl hg (bz BK278.out) : gb278 ≠ gb281)); have NB281_278 := am ((ng hg (bz BK278.out) : gb281 ≠ gb278)); replace BK278 := am (blk_below (bz BK278.out) hb); have NB279_281 := am ((nl hg (bz BK279.out) : gb279 ≠ gb281)); have NB281_279 := am ((ng hg (bz BK279.out) : gb281 ≠ gb279)); replace BK279 := am (blk_below (bz BK279.out) hb); clear hb hbox hg; have hnb21 := NB281_278.out; have hnc21 := NB278_281.out; have hnb22 := NB281_279.out; have hnc22 := NB279_281.out; obtain ⟨hcz23_0, hcz23_1, hcz23_2, hcz23_3, hcz23_4⟩ := cs5 BK281.out; obtain ⟨hfz23_0, hfz23_1, hfz23_2, hfz23_3, hfz23_4⟩ := fs5 BK281.out))
     go_roundg k1
     case measure => have := HK1.out; omega
     case rel => exact ⟨(wrap64 (x11_1 + 1)), (x280000_1), (x280001_1), (x280002_1), (x280003_1), (by first | rfl | (simp; done) | (simp [*]; done)), H', ⟨by have := HK1.out; omega⟩, ⟨bf1 NB278_281.out BK278.out⟩, ⟨bf1 NB279_281.out BK279.out⟩, ⟨hz3 HB.out GE278.out GE279.out GE281.out⟩⟩
   ·
    rw [if_neg c7] at H
    have c7b0 : decide (x11_1 < (l0_4.length : Int)) = false := decide_eq_false c7
    clear c7
    simp only [Option.some.injEq, Prod.mk.injEq] at H
    obtain ⟨rfl, rfl, rfl, rfl, rfl, rfl⟩ := H
    have hnb24 := NB279_278.out
    have hnc24 := NB278_279.out
    have hcz25_0 : wr.cell? ⟨gb279, 0, none⟩ = some (.int .i64 x280000_1) := (blk_cell BK279.out 0).trans rfl
    have hcz25_1 : wr.cell? ⟨gb279, 1, none⟩ = some (.int .i64 x280001_1) := (blk_cell BK279.out 1).trans rfl
    have hcz25_2 : wr.cell? ⟨gb279, 2, none⟩ = some (.int .i64 x280002_1) := (blk_cell BK279.out 2).trans rfl
    have hcz25_3 : wr.cell? ⟨gb279, 3, none⟩ = some (.string x280003_1) := (blk_cell BK279.out 3).trans rfl
    have hcz25_4 : wr.cell? ⟨gb279, 4, none⟩ = some (.slice none 0 0) := (blk_cell BK279.out 4).trans rfl
    have hfz25_0 := blk_frozen BK279.out 0
    have hfz25_1 := blk_frozen BK279.out 1
    have hfz25_2 := blk_frozen BK279.out 2
    have hfz25_3 := blk_frozen BK279.out 3
    have hfz25_4 := blk_frozen BK279.out 4
    go_wp2
    refine bodyPost_ret (results_ct rfl _ _ gb279 24 #[.int .i64 0, .int .i64 0, .int .i64 0, .string (⟨#[]⟩ : ByteArray), .slice none 0 0] (0, 0) _ rfl (by (with_reducible repeat (first | refine blk_drewN ?_ _ | refine blk_drew ?_ | refine blk_alloc ?_ _)); refine blk_put (cs := #[.int .i64 0, .int .i64 0, .int .i64 0, .string (⟨#[]⟩ : ByteArray), .slice none 0 0]) ?_ 4 _ rfl; (with_reducible repeat (first | refine blk_drewN ?_ _ | refine blk_drew ?_ | refine blk_alloc ?_ _)); refine blk_put (cs := #[.int .i64 0, .int .i64 0, .int .i64 0, .string x280003_1, .slice none 0 0]) ?_ 3 _ rfl; (with_reducible repeat (first | refine blk_drewN ?_ _ | refine blk_drew ?_ | refine blk_alloc ?_ _)); refine blk_put (cs := #[.int .i64 0, .int .i64 0, .int .i64 x280002_1, .string x280003_1, .slice none 0 0]) ?_ 2 _ rfl; (with_reducible repeat (first | refine blk_drewN ?_ _ | refine blk_drew ?_ | refine blk_alloc ?_ _)); refine blk_put (cs := #[.int .i64 0, .int .i64 x280001_1, .int .i64 x280002_1, .string x280003_1, .slice none 0 0]) ?_ 1 _ rfl; (with_reducible repeat (first | refine blk_drewN ?_ _ | refine blk_drew ?_ | refine blk_alloc ?_ _)); refine blk_put (cs := #[.int .i64 x280000_1, .int .i64 x280001_1, .int .i64 x280002_1, .string x280003_1, .slice none 0 0]) ?_ 0 _ rfl; (with_reducible repeat (first | refine blk_drewN ?_ _ | refine blk_drew ?_ | refine blk_alloc ?_ _)); exact BK279.out) Try.underlying24 rfl (by kernel_rfl)) rfl ?_
    exact ⟨_, by first | rfl | (simp [errW_none, errW_some] <;> rfl) | (simp [*, errW_none, errW_some] <;> rfl), by first | exact Kd.R_nil _ _ _ _ _ | exact Kd.N_nil _ _ _ _ _ | exact Kd.V_nil _ _ _ _ _ | exact Kd.Q_nil _ _ _ _ _ | exact Kd.S_nil _ _ _ _ _, hz2 HB.out GE278.out GE279.out⟩

end Go.Proofs.Ytipjfhakcceebaa.Q
