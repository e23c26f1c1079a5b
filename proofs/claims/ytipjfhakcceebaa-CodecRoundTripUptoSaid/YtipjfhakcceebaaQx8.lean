/- Made by wip/myprint.py of this session (it drives the kit's printer): what the calls of the Go functions come to, as plain Lean functions, and the row of a law over them; without conditions. -/
import Derived.Test.YtipjfhakcceebaaQx0
namespace Go.Proofs.Ytipjfhakcceebaa.Q
open Go.RowKit Go.Proofs.YtipjfhakcceebaaW.PrintWords Go.Proofs.YtipjfhakcceebaaW.PrintLast Go.Proofs.YtipjfhakcceebaaW.PrintMore
attribute [local go_sem] max2_int min2_int max_two min_two max_three min_three max_four min_four   -- for this text's walks alone
set_option linter.unusedVariables false
set_option linter.unusedSimpArgs false

/-! ### codec_Equal: function 14 -/
mutual
def codec_Equal.j0 : Nat → Bool → Int → Int → Int → ByteArray → List (S24) → Int → Int → Int → ByteArray → List (S24) → Option (Bool)
 | 0, _, _, _, _, _, _, _, _, _, _, _ => none
 | k + 1, x40, x249000, x249001, x249002, x249003, x249004, x250000, x250001, x250002, x250003, x250004 => if x40 = true then (some false) else (codec_Equal.l0 k (x249004.length : Int) 0 x249000 x249001 x249002 x249003 x249004 x250000 x250001 x250002 x250003 x250004)
def codec_Equal.l0 : Nat → Int → Int → Int → Int → Int → ByteArray → List (S24) → Int → Int → Int → ByteArray → List (S24) → Option (Bool)
 | 0, _, _, _, _, _, _, _, _, _, _, _, _ => none
 | k + 1, x43, x44, x249000, x249001, x249002, x249003, x249004, x250000, x250001, x250002, x250003, x250004 => if x44 < x43 then (if 0 ≤ x44 then (if x44 < (x249004.length : Int) then (if x44 < (x250004.length : Int) then ((codec_Equal.f k ((rd_T24 x249004 x44).f0) ((rd_T24 x249004 x44).f1) ((rd_T24 x249004 x44).f2) ((rd_T24 x249004 x44).f3) ((rd_T24 x249004 x44).f4) ((rd_T24 x250004 x44).f0) ((rd_T24 x250004 x44).f1) ((rd_T24 x250004 x44).f2) ((rd_T24 x250004 x44).f3) ((rd_T24 x250004 x44).f4)).bind fun t252 => (if t252 = true then (codec_Equal.l0 k x43 (wrap64 (x44 + 1)) x249000 x249001 x249002 x249003 x249004 x250000 x250001 x250002 x250003 x250004) else (some false))) else (none)) else (none)) else (none)) else (some true)
def codec_Equal.f : Nat → Int → Int → Int → ByteArray → List (S24) → Int → Int → Int → ByteArray → List (S24) → Option (Bool)
 | 0, _, _, _, _, _, _, _, _, _, _ => none
 | k + 1, a0_0, a0_1, a0_2, a0_3, l0_4, a1_0, a1_1, a1_2, a1_3, l1_4 => if a0_0 = a1_0 then (if a0_1 = a1_1 then (if a0_2 = a1_2 then (if a0_3.toList = a1_3.toList then (codec_Equal.j0 k ((l0_4.length : Int) != (l1_4.length : Int)) a0_0 a0_1 a0_2 a0_3 l0_4 a1_0 a1_1 a1_2 a1_3 l1_4) else (codec_Equal.j0 k true a0_0 a0_1 a0_2 a0_3 l0_4 a1_0 a1_1 a1_2 a1_3 l1_4)) else (codec_Equal.j0 k true a0_0 a0_1 a0_2 a0_3 l0_4 a1_0 a1_1 a1_2 a1_3 l1_4)) else (codec_Equal.j0 k true a0_0 a0_1 a0_2 a0_3 l0_4 a1_0 a1_1 a1_2 a1_3 l1_4)) else (codec_Equal.j0 k true a0_0 a0_1 a0_2 a0_3 l0_4 a1_0 a1_1 a1_2 a1_3 l1_4)
end
theorem codec_Equal.mono_l : ∀ k, (∀ y0 y1 y2 y3 y4 y5 y6 y7 y8 y9, LeO (codec_Equal.f k y0 y1 y2 y3 y4 y5 y6 y7 y8 y9) (codec_Equal.f (k + 1) y0 y1 y2 y3 y4 y5 y6 y7 y8 y9)) ∧ (∀ y0 y1 y2 y3 y4 y5 y6 y7 y8 y9 y10, LeO (codec_Equal.j0 k y0 y1 y2 y3 y4 y5 y6 y7 y8 y9 y10) (codec_Equal.j0 (k + 1) y0 y1 y2 y3 y4 y5 y6 y7 y8 y9 y10)) ∧ (∀ y0 y1 y2 y3 y4 y5 y6 y7 y8 y9 y10 y11, LeO (codec_Equal.l0 k y0 y1 y2 y3 y4 y5 y6 y7 y8 y9 y10 y11) (codec_Equal.l0 (k + 1) y0 y1 y2 y3 y4 y5 y6 y7 y8 y9 y10 y11))
 | 0 => ⟨fun _ _ _ _ _ _ _ _ _ _ r h => by simp [codec_Equal.f] at h, fun _ _ _ _ _ _ _ _ _ _ _ r h => by simp [codec_Equal.j0] at h, fun _ _ _ _ _ _ _ _ _ _ _ _ r h => by simp [codec_Equal.l0] at h⟩
 | k + 1 => by
  obtain ⟨ih0, ih1, ih2⟩ := codec_Equal.mono_l k
  refine ⟨?_, ?_, ?_⟩
  ·
   intro y0 y1 y2 y3 y4 y5 y6 y7 y8 y9
   unfold codec_Equal.f
   repeat' first
   | (with_reducible exact ih0 _ _ _ _ _ _ _ _ _ _)
   | (with_reducible exact ih1 _ _ _ _ _ _ _ _ _ _ _)
   | (with_reducible exact ih2 _ _ _ _ _ _ _ _ _ _ _ _)
   | (with_reducible exact LeO.refl _)
   | (with_reducible exact LeO.none _)
   | (with_reducible refine LeO.ite ?_ ?_)
   | (with_reducible refine LeO.bind ?_ (fun _ => ?_))
   | exact ih0 _ _ _ _ _ _ _ _ _ _
   | exact ih1 _ _ _ _ _ _ _ _ _ _ _
   | exact ih2 _ _ _ _ _ _ _ _ _ _ _ _
   | exact LeO.none _
   | refine LeO.ite ?_ ?_
   | refine LeO.bind ?_ (fun _ => ?_)
  ·
   intro y0 y1 y2 y3 y4 y5 y6 y7 y8 y9 y10
   unfold codec_Equal.j0
   repeat' first
   | (with_reducible exact ih0 _ _ _ _ _ _ _ _ _ _)
   | (with_reducible exact ih1 _ _ _ _ _ _ _ _ _ _ _)
   | (with_reducible exact ih2 _ _ _ _ _ _ _ _ _ _ _ _)
   | (with_reducible exact LeO.refl _)
   | (with_reducible exact LeO.none _)
   | (with_reducible refine LeO.ite ?_ ?_)
   | (with_reducible refine LeO.bind ?_ (fun _ => ?_))
   | exact ih0 _ _ _ _ _ _ _ _ _ _
   | exact ih1 _ _ _ _ _ _ _ _ _ _ _
   | exact ih2 _ _ _ _ _ _ _ _ _ _ _ _
   | exact LeO.none _
   | refine LeO.ite ?_ ?_
   | refine LeO.bind ?_ (fun _ => ?_)
  ·
   intro y0 y1 y2 y3 y4 y5 y6 y7 y8 y9 y10 y11
   unfold codec_Equal.l0
   repeat' first
   | (with_reducible exact ih0 _ _ _ _ _ _ _ _ _ _)
   | (with_reducible exact ih1 _ _ _ _ _ _ _ _ _ _ _)
   | (with_reducible exact ih2 _ _ _ _ _ _ _ _ _ _ _ _)
   | (with_reducible exact LeO.refl _)
   | (with_reducible exact LeO.none _)
   | (with_reducible refine LeO.ite ?_ ?_)
   | (with_reducible refine LeO.bind ?_ (fun _ => ?_))
   | exact ih0 _ _ _ _ _ _ _ _ _ _
   | exact ih1 _ _ _ _ _ _ _ _ _ _ _
   | exact ih2 _ _ _ _ _ _ _ _ _ _ _ _
   | exact LeO.none _
   | refine LeO.ite ?_ ?_
   | refine LeO.bind ?_ (fun _ => ?_)
theorem codec_Equal.mono : ∀ a0 a1 a2 a3 a4 a5 a6 a7 a8 a9 k, LeO (codec_Equal.f k a0 a1 a2 a3 a4 a5 a6 a7 a8 a9) (codec_Equal.f (k + 1) a0 a1 a2 a3 a4 a5 a6 a7 a8 a9) := by
 intro a0 a1 a2 a3 a4 a5 a6 a7 a8 a9 k
 obtain ⟨ih0, ih1, ih2⟩ := codec_Equal.mono_l k
 exact ih0 a0 a1 a2 a3 a4 a5 a6 a7 a8 a9
def codec_Equal.T6 : Bool × List (List Nat × List Nat) := (true, [([], []), ([0], [0]), ([], []), ([1, 2], [1, 2]), ([3], [3]), ([], []), ([5], [5]), ([], []), ([6, 7], [6, 7]), ([8], [8]), ([4, 9], [4, 9]), ([10], [10])])
def codec_Equal.B6 : List Nat := [0, 1, 0, 7, 15, 0, 32, 0, 224, 480, 1023, 2047]
theorem codec_Equal.tab6 : rtab .any (opsOf Try.f14 6) = codec_Equal.T6 := by kernel_rfl
theorem codec_Equal.bits6 : waitsOk codec_Equal.T6.2 codec_Equal.B6 = true := by kernel_rfl
set_option maxHeartbeats 8000000 in
set_option maxRecDepth 100000 in
theorem codec_Equal.calls (k : Nat) : ∀ (a0_0 : Int) (a0_1 : Int) (a0_2 : Int) (a0_3 : ByteArray) (A0_4 : Option Addr) (c0_4 : Nat) (l0_4 : List (S24)) (a1_0 : Int) (a1_1 : Int) (a1_2 : Int) (a1_3 : ByteArray) (A1_4 : Option Addr) (c1_4 : Nat) (l1_4 : List (S24)) (r : Bool) (w : World) (hr0_4 : Kd.C k24 w A0_4 l0_4.length l0_4) (hc0_4 : l0_4.length ≤ c0_4) (hr1_4 : Kd.C k24 w A1_4 l1_4.length l1_4) (hc1_4 : l1_4.length ≤ c1_4) (h : codec_Equal.f k a0_0 a0_1 a0_2 a0_3 l0_4 a1_0 a1_1 a1_2 a1_3 l1_4 = some r),
  Calls Try.prog 14 #[.agg #[.int .i64 a0_0, .int .i64 a0_1, .int .i64 a0_2, .string a0_3, .slice A0_4 l0_4.length c0_4], .agg #[.int .i64 a1_0, .int .i64 a1_1, .int .i64 a1_2, .string a1_3, .slice A1_4 l1_4.length c1_4]] w fun e w' => e = .returned (.bool r) ∧ Below w.heap.size w w' := by
 induction k using Nat.strongRecOn with
 | _ k ih =>
 intro a0_0 a0_1 a0_2 a0_3 A0_4 c0_4 l0_4 a1_0 a1_1 a1_2 a1_3 A1_4 c1_4 l1_4 r w hr0_4 hc0_4 hr1_4 hc1_4 h
 cases k with
 | zero => exact absurd h (by simp [codec_Equal.f])
 | succ k =>
 simp only [codec_Equal.f] at h
 have hu24 := Try.underlying24
 have HR0_4 := am hr0_4
 have HC0_4 := am hc0_4
 clear hr0_4 hc0_4
 have HR1_4 := am hr1_4
 have HC1_4 := am hc1_4
 clear hr1_4 hc1_4
 have HB := am (Below.refl w.heap.size w)
 have H : (if a0_0 = a1_0 then (if a0_1 = a1_1 then (if a0_2 = a1_2 then (if a0_3.toList = a1_3.toList then (codec_Equal.j0 k ((l0_4.length : Int) != (l1_4.length : Int)) a0_0 a0_1 a0_2 a0_3 l0_4 a1_0 a1_1 a1_2 a1_3 l1_4) else (codec_Equal.j0 k true a0_0 a0_1 a0_2 a0_3 l0_4 a1_0 a1_1 a1_2 a1_3 l1_4)) else (codec_Equal.j0 k true a0_0 a0_1 a0_2 a0_3 l0_4 a1_0 a1_1 a1_2 a1_3 l1_4)) else (codec_Equal.j0 k true a0_0 a0_1 a0_2 a0_3 l0_4 a1_0 a1_1 a1_2 a1_3 l1_4)) else (codec_Equal.j0 k true a0_0 a0_1 a0_2 a0_3 l0_4 a1_0 a1_1 a1_2 a1_3 l1_4)) = some r := h
 clear h
 have HC3 := am H
 clear H
 go_enter Try.func14, Try.ntmps14
 go_upto_region 1 with (first | ((with_reducible refine gate_dst (N := 2) rfl ?_); (try (refine gate_guard (by rfl) ?_; dsimp only)); refine box_event ?hg (N := 2) ?hd (cs := #[.int .i64 a0_0, .int .i64 a0_1, .int .i64 a0_2, .string a0_3, .slice A0_4 l0_4.length c0_4]) (t := 24) ?hr ?_; (case hd => rfl); (case hg => rfl); (case hr => exact gz); intro gb248 hg w4 hbox hb; have BK248 := am (hbox); have GW248 := am ((bs hg (hz HB.out) : w.heap.size ≤ gb248)); have GE248 := am ((bs hg (hz HB.out) : w.heap.size ≤ gb248)); replace HB := am (below_step (hz HB.out) hb); clear hb hbox hg) | ((with_reducible refine gate_dst (N := 3) rfl ?_); (try (refine gate_guard (by rfl) ?_; dsimp only)); refine box_event ?hg (N := 3) ?hd (cs := #[.int .i64 a1_0, .int .i64 a1_1, .int .i64 a1_2, .string a1_3, .slice A1_4 l1_4.length c1_4]) (t := 24) ?hr ?_; (case hd => rfl); (case hg => rfl); (case hr => exact gz); intro gb249 hg w5 hbox hb; have BK249 := am (hbox); have GW249 := am ((bs hg (hz1 HB.out GE248.out) : w.heap.size ≤ gb249)); have GE249 := am ((bs hg (hz1 HB.out GE248.out) : w.heap.size ≤ gb249)); replace HB := am (below_step (hz1 HB.out GE248.out) hb); have NB248_249 := am ((nl hg (bz BK248.out) : gb248 ≠ gb249)); have NB249_248 := am ((ng hg (bz BK248.out) : gb249 ≠ gb248)); replace BK248 := am (blk_below (bz BK248.out) hb); clear hb hbox hg))
 (try simp only [Act.put, List.setIfInBounds_toArray, List.set_cons_zero, List.set_cons_succ])
 go_cut [40] (fun v40 wc => ∃ (kq : Nat) (x40_2 : Bool), v40 = .bool x40_2 ∧ Aside0 (codec_Equal.j0 kq x40_2 a0_0 a0_1 a0_2 a0_3 l0_4 a1_0 a1_1 a1_2 a1_3 l1_4 = some r) ∧ Aside0 (kq ≤ k) ∧ Aside0 (wc.heap[gb248]? = some (.cells #[.int .i64 a0_0, .int .i64 a0_1, .int .i64 a0_2, .string a0_3, (.slice A0_4 l0_4.length c0_4)] 24 (0, 0))) ∧ Aside0 (wc.heap[gb249]? = some (.cells #[.int .i64 a1_0, .int .i64 a1_1, .int .i64 a1_2, .string a1_3, (.slice A1_4 l1_4.length c1_4)] 24 (0, 0))) ∧ Aside0 (Below w.heap.size w wc))
 case first =>
  have H := HC3.out
  clear HC3
  by_cases c6 : a0_0 = a1_0
  ·
   rw [if_pos c6] at H
   have c6b0 : (a0_0 == a1_0) = true := beq_iff_eq.mpr c6
   have c6b1 : (a0_0 != a1_0) = false := bne_eq_false_iff_eq.mpr c6
   clear c6
   (first | rw [c6b0] | (simp only [i64_w, i32_w]; rw [c6b0]) | skip)
   by_cases c7 : a0_1 = a1_1
   ·
    rw [if_pos c7] at H
    have c7b0 : (a0_1 == a1_1) = true := beq_iff_eq.mpr c7
    have c7b1 : (a0_1 != a1_1) = false := bne_eq_false_iff_eq.mpr c7
    clear c7
    by_cases c8 : a0_2 = a1_2
    ·
     rw [if_pos c8] at H
     have c8b0 : (a0_2 == a1_2) = true := beq_iff_eq.mpr c8
     have c8b1 : (a0_2 != a1_2) = false := bne_eq_false_iff_eq.mpr c8
     clear c8
     by_cases c9 : a0_3.toList = a1_3.toList
     ·
      rw [if_pos c9] at H
      have c9b0 : (a0_3.toList == a1_3.toList) = true := beq_iff_eq.mpr c9
      have c9b1 : (a0_3.toList != a1_3.toList) = false := bne_eq_false_iff_eq.mpr c9
      clear c9
      have H' := am H
      clear H
      have hnb10 := NB248_249.out
      have hnc10 := NB249_248.out
      have hcz11_0 : w5.cell? ⟨gb248, 0, none⟩ = some (.int .i64 a0_0) := (blk_cell BK248.out 0).trans rfl
      have hcz11_1 : w5.cell? ⟨gb248, 1, none⟩ = some (.int .i64 a0_1) := (blk_cell BK248.out 1).trans rfl
      have hcz11_2 : w5.cell? ⟨gb248, 2, none⟩ = some (.int .i64 a0_2) := (blk_cell BK248.out 2).trans rfl
      have hcz11_3 : w5.cell? ⟨gb248, 3, none⟩ = some (.string a0_3) := (blk_cell BK248.out 3).trans rfl
      have hcz11_4 : w5.cell? ⟨gb248, 4, none⟩ = some (.slice A0_4 l0_4.length c0_4) := (blk_cell BK248.out 4).trans rfl
      have hfz11_0 := blk_frozen BK248.out 0
      have hfz11_1 := blk_frozen BK248.out 1
      have hfz11_2 := blk_frozen BK248.out 2
      have hfz11_3 := blk_frozen BK248.out 3
      have hfz11_4 := blk_frozen BK248.out 4
      have hcz12_0 : w5.cell? ⟨gb249, 0, none⟩ = some (.int .i64 a1_0) := (blk_cell BK249.out 0).trans rfl
      have hcz12_1 : w5.cell? ⟨gb249, 1, none⟩ = some (.int .i64 a1_1) := (blk_cell BK249.out 1).trans rfl
      have hcz12_2 : w5.cell? ⟨gb249, 2, none⟩ = some (.int .i64 a1_2) := (blk_cell BK249.out 2).trans rfl
      have hcz12_3 : w5.cell? ⟨gb249, 3, none⟩ = some (.string a1_3) := (blk_cell BK249.out 3).trans rfl
      have hcz12_4 : w5.cell? ⟨gb249, 4, none⟩ = some (.slice A1_4 l1_4.length c1_4) := (blk_cell BK249.out 4).trans rfl
      have hfz12_0 := blk_frozen BK249.out 0
      have hfz12_1 := blk_frozen BK249.out 1
      have hfz12_2 := blk_frozen BK249.out 2
      have hfz12_3 := blk_frozen BK249.out 3
      have hfz12_4 := blk_frozen BK249.out 4
      go_wp2
      go_meet
      case rel => exact ⟨_, (((l0_4.length : Int) != (l1_4.length : Int))), (by first | rfl | (simp; done) | (simp [*]; done)), H', ⟨by first | omega | exact Nat.le_refl _⟩, ⟨by (with_reducible repeat (first | refine blk_drewN ?_ _ | refine blk_drew ?_ | refine blk_alloc ?_ _)); exact BK248.out⟩, ⟨by (with_reducible repeat (first | refine blk_drewN ?_ _ | refine blk_drew ?_ | refine blk_alloc ?_ _)); exact BK249.out⟩, ⟨hz2 HB.out GE248.out GE249.out⟩⟩
     ·
      rw [if_neg c9] at H
      have c9b0 : (a0_3.toList == a1_3.toList) = false := beq_eq_false_iff_ne.mpr c9
      have c9b1 : (a0_3.toList != a1_3.toList) = true := bne_iff_ne.mpr c9
      have H' := am H
      clear H
      have hnb13 := NB248_249.out
      have hnc13 := NB249_248.out
      have hcz14_0 : w5.cell? ⟨gb248, 0, none⟩ = some (.int .i64 a0_0) := (blk_cell BK248.out 0).trans rfl
      have hcz14_1 : w5.cell? ⟨gb248, 1, none⟩ = some (.int .i64 a0_1) := (blk_cell BK248.out 1).trans rfl
      have hcz14_2 : w5.cell? ⟨gb248, 2, none⟩ = some (.int .i64 a0_2) := (blk_cell BK248.out 2).trans rfl
      have hcz14_3 : w5.cell? ⟨gb248, 3, none⟩ = some (.string a0_3) := (blk_cell BK248.out 3).trans rfl
      have hcz14_4 : w5.cell? ⟨gb248, 4, none⟩ = some (.slice A0_4 l0_4.length c0_4) := (blk_cell BK248.out 4).trans rfl
      have hfz14_0 := blk_frozen BK248.out 0
      have hfz14_1 := blk_frozen BK248.out 1
      have hfz14_2 := blk_frozen BK248.out 2
      have hfz14_3 := blk_frozen BK248.out 3
      have hfz14_4 := blk_frozen BK248.out 4
      have hcz15_0 : w5.cell? ⟨gb249, 0, none⟩ = some (.int .i64 a1_0) := (blk_cell BK249.out 0).trans rfl
      have hcz15_1 : w5.cell? ⟨gb249, 1, none⟩ = some (.int .i64 a1_1) := (blk_cell BK249.out 1).trans rfl
      have hcz15_2 : w5.cell? ⟨gb249, 2, none⟩ = some (.int .i64 a1_2) := (blk_cell BK249.out 2).trans rfl
      have hcz15_3 : w5.cell? ⟨gb249, 3, none⟩ = some (.string a1_3) := (blk_cell BK249.out 3).trans rfl
      have hcz15_4 : w5.cell? ⟨gb249, 4, none⟩ = some (.slice A1_4 l1_4.length c1_4) := (blk_cell BK249.out 4).trans rfl
      have hfz15_0 := blk_frozen BK249.out 0
      have hfz15_1 := blk_frozen BK249.out 1
      have hfz15_2 := blk_frozen BK249.out 2
      have hfz15_3 := blk_frozen BK249.out 3
      have hfz15_4 := blk_frozen BK249.out 4
      go_wp2
      go_meet
      case rel => exact ⟨_, (true), (by first | rfl | (simp; done) | (simp [*]; done)), H', ⟨by first | omega | exact Nat.le_refl _⟩, ⟨by (with_reducible repeat (first | refine blk_drewN ?_ _ | refine blk_drew ?_ | refine blk_alloc ?_ _)); exact BK248.out⟩, ⟨by (with_reducible repeat (first | refine blk_drewN ?_ _ | refine blk_drew ?_ | refine blk_alloc ?_ _)); exact BK249.out⟩, ⟨hz2 HB.out GE248.out GE249.out⟩⟩
    ·
     rw [if_neg c8] at H
     have c8b0 : (a0_2 == a1_2) = false := beq_eq_false_iff_ne.mpr c8
     have c8b1 : (a0_2 != a1_2) = true := bne_iff_ne.mpr c8
     have H' := am H
     clear H
     have hnb16 := NB248_249.out
     have hnc16 := NB249_248.out
     have hcz17_0 : w5.cell? ⟨gb248, 0, none⟩ = some (.int .i64 a0_0) := (blk_cell BK248.out 0).trans rfl
     have hcz17_1 : w5.cell? ⟨gb248, 1, none⟩ = some (.int .i64 a0_1) := (blk_cell BK248.out 1).trans rfl
     have hcz17_2 : w5.cell? ⟨gb248, 2, none⟩ = some (.int .i64 a0_2) := (blk_cell BK248.out 2).trans rfl
     have hcz17_3 : w5.cell? ⟨gb248, 3, none⟩ = some (.string a0_3) := (blk_cell BK248.out 3).trans rfl
     have hcz17_4 : w5.cell? ⟨gb248, 4, none⟩ = some (.slice A0_4 l0_4.length c0_4) := (blk_cell BK248.out 4).trans rfl
     have hfz17_0 := blk_frozen BK248.out 0
     have hfz17_1 := blk_frozen BK248.out 1
     have hfz17_2 := blk_frozen BK248.out 2
     have hfz17_3 := blk_frozen BK248.out 3
     have hfz17_4 := blk_frozen BK248.out 4
     have hcz18_0 : w5.cell? ⟨gb249, 0, none⟩ = some (.int .i64 a1_0) := (blk_cell BK249.out 0).trans rfl
     have hcz18_1 : w5.cell? ⟨gb249, 1, none⟩ = some (.int .i64 a1_1) := (blk_cell BK249.out 1).trans rfl
     have hcz18_2 : w5.cell? ⟨gb249, 2, none⟩ = some (.int .i64 a1_2) := (blk_cell BK249.out 2).trans rfl
     have hcz18_3 : w5.cell? ⟨gb249, 3, none⟩ = some (.string a1_3) := (blk_cell BK249.out 3).trans rfl
     have hcz18_4 : w5.cell? ⟨gb249, 4, none⟩ = some (.slice A1_4 l1_4.length c1_4) := (blk_cell BK249.out 4).trans rfl
     have hfz18_0 := blk_frozen BK249.out 0
     have hfz18_1 := blk_frozen BK249.out 1
     have hfz18_2 := blk_frozen BK249.out 2
     have hfz18_3 := blk_frozen BK249.out 3
     have hfz18_4 := blk_frozen BK249.out 4
     go_wp2
     go_meet
     case rel => exact ⟨_, (true), (by first | rfl | (simp; done) | (simp [*]; done)), H', ⟨by first | omega | exact Nat.le_refl _⟩, ⟨by (with_reducible repeat (first | refine blk_drewN ?_ _ | refine blk_drew ?_ | refine blk_alloc ?_ _)); exact BK248.out⟩, ⟨by (with_reducible repeat (first | refine blk_drewN ?_ _ | refine blk_drew ?_ | refine blk_alloc ?_ _)); exact BK249.out⟩, ⟨hz2 HB.out GE248.out GE249.out⟩⟩
   ·
    rw [if_neg c7] at H
    have c7b0 : (a0_1 == a1_1) = false := beq_eq_false_iff_ne.mpr c7
    have c7b1 : (a0_1 != a1_1) = true := bne_iff_ne.mpr c7
    have H' := am H
    clear H
    have hnb19 := NB248_249.out
    have hnc19 := NB249_248.out
    have hcz20_0 : w5.cell? ⟨gb248, 0, none⟩ = some (.int .i64 a0_0) := (blk_cell BK248.out 0).trans rfl
    have hcz20_1 : w5.cell? ⟨gb248, 1, none⟩ = some (.int .i64 a0_1) := (blk_cell BK248.out 1).trans rfl
    have hcz20_2 : w5.cell? ⟨gb248, 2, none⟩ = some (.int .i64 a0_2) := (blk_cell BK248.out 2).trans rfl
    have hcz20_3 : w5.cell? ⟨gb248, 3, none⟩ = some (.string a0_3) := (blk_cell BK248.out 3).trans rfl
    have hcz20_4 : w5.cell? ⟨gb248, 4, none⟩ = some (.slice A0_4 l0_4.length c0_4) := (blk_cell BK248.out 4).trans rfl
    have hfz20_0 := blk_frozen BK248.out 0
    have hfz20_1 := blk_frozen BK248.out 1
    have hfz20_2 := blk_frozen BK248.out 2
    have hfz20_3 := blk_frozen BK248.out 3
    have hfz20_4 := blk_frozen BK248.out 4
    have hcz21_0 : w5.cell? ⟨gb249, 0, none⟩ = some (.int .i64 a1_0) := (blk_cell BK249.out 0).trans rfl
    have hcz21_1 : w5.cell? ⟨gb249, 1, none⟩ = some (.int .i64 a1_1) := (blk_cell BK249.out 1).trans rfl
    have hcz21_2 : w5.cell? ⟨gb249, 2, none⟩ = some (.int .i64 a1_2) := (blk_cell BK249.out 2).trans rfl
    have hcz21_3 : w5.cell? ⟨gb249, 3, none⟩ = some (.string a1_3) := (blk_cell BK249.out 3).trans rfl
    have hcz21_4 : w5.cell? ⟨gb249, 4, none⟩ = some (.slice A1_4 l1_4.length c1_4) := (blk_cell BK249.out 4).trans rfl
    have hfz21_0 := blk_frozen BK249.out 0
    have hfz21_1 := blk_frozen BK249.out 1
    have hfz21_2 := blk_frozen BK249.out 2
    have hfz21_3 := blk_frozen BK249.out 3
    have hfz21_4 := blk_frozen BK249.out 4
    go_wp2
    go_meet
    case rel => exact ⟨_, (true), (by first | rfl | (simp; done) | (simp [*]; done)), H', ⟨by first | omega | exact Nat.le_refl _⟩, ⟨by (with_reducible repeat (first | refine blk_drewN ?_ _ | refine blk_drew ?_ | refine blk_alloc ?_ _)); exact BK248.out⟩, ⟨by (with_reducible repeat (first | refine blk_drewN ?_ _ | refine blk_drew ?_ | refine blk_alloc ?_ _)); exact BK249.out⟩, ⟨hz2 HB.out GE248.out GE249.out⟩⟩
  ·
   rw [if_neg c6] at H
   have c6b0 : (a0_0 == a1_0) = false := beq_eq_false_iff_ne.mpr c6
   have c6b1 : (a0_0 != a1_0) = true := bne_iff_ne.mpr c6
   (first | rw [c6b0] | (simp only [i64_w, i32_w]; rw [c6b0]) | skip)
   have H' := am H
   clear H
   have hnb22 := NB248_249.out
   have hnc22 := NB249_248.out
   have hcz23_0 : w5.cell? ⟨gb248, 0, none⟩ = some (.int .i64 a0_0) := (blk_cell BK248.out 0).trans rfl
   have hcz23_1 : w5.cell? ⟨gb248, 1, none⟩ = some (.int .i64 a0_1) := (blk_cell BK248.out 1).trans rfl
   have hcz23_2 : w5.cell? ⟨gb248, 2, none⟩ = some (.int .i64 a0_2) := (blk_cell BK248.out 2).trans rfl
   have hcz23_3 : w5.cell? ⟨gb248, 3, none⟩ = some (.string a0_3) := (blk_cell BK248.out 3).trans rfl
   have hcz23_4 : w5.cell? ⟨gb248, 4, none⟩ = some (.slice A0_4 l0_4.length c0_4) := (blk_cell BK248.out 4).trans rfl
   have hfz23_0 := blk_frozen BK248.out 0
   have hfz23_1 := blk_frozen BK248.out 1
   have hfz23_2 := blk_frozen BK248.out 2
   have hfz23_3 := blk_frozen BK248.out 3
   have hfz23_4 := blk_frozen BK248.out 4
   have hcz24_0 : w5.cell? ⟨gb249, 0, none⟩ = some (.int .i64 a1_0) := (blk_cell BK249.out 0).trans rfl
   have hcz24_1 : w5.cell? ⟨gb249, 1, none⟩ = some (.int .i64 a1_1) := (blk_cell BK249.out 1).trans rfl
   have hcz24_2 : w5.cell? ⟨gb249, 2, none⟩ = some (.int .i64 a1_2) := (blk_cell BK249.out 2).trans rfl
   have hcz24_3 : w5.cell? ⟨gb249, 3, none⟩ = some (.string a1_3) := (blk_cell BK249.out 3).trans rfl
   have hcz24_4 : w5.cell? ⟨gb249, 4, none⟩ = some (.slice A1_4 l1_4.length c1_4) := (blk_cell BK249.out 4).trans rfl
   have hfz24_0 := blk_frozen BK249.out 0
   have hfz24_1 := blk_frozen BK249.out 1
   have hfz24_2 := blk_frozen BK249.out 2
   have hfz24_3 := blk_frozen BK249.out 3
   have hfz24_4 := blk_frozen BK249.out 4
   go_wp2
   go_meet
   case rel => exact ⟨_, (true), (by first | rfl | (simp; done) | (simp [*]; done)), H', ⟨by first | omega | exact Nat.le_refl _⟩, ⟨by (with_reducible repeat (first | refine blk_drewN ?_ _ | refine blk_drew ?_ | refine blk_alloc ?_ _)); exact BK248.out⟩, ⟨by (with_reducible repeat (first | refine blk_drewN ?_ _ | refine blk_drew ?_ | refine blk_alloc ?_ _)); exact BK249.out⟩, ⟨hz2 HB.out GE248.out GE249.out⟩⟩
 case rest =>
  clear HC3
  try clear c1
  try clear c2
  try clear p2
  try clear c6
  try clear c6b0
  try clear c6b1
  try clear c7
  try clear c7b0
  try clear c7b1
  try clear c8
  try clear c8b0
  try clear c8b1
  try clear c9
  try clear c9b0
  try clear c9b1
  try clear c10
  try clear c13
  try clear c14
  try clear c16
  try clear c19
  try clear c22
  try clear hcz11_0
  try clear hcz11_1
  try clear hcz11_2
  try clear hcz11_3
  try clear hcz11_4
  try clear hcz12_0
  try clear hcz12_1
  try clear hcz12_2
  try clear hcz12_3
  try clear hcz12_4
  try clear hcz14_0
  try clear hcz14_1
  try clear hcz14_2
  try clear hcz14_3
  try clear hcz14_4
  try clear hcz15_0
  try clear hcz15_1
  try clear hcz15_2
  try clear hcz15_3
  try clear hcz15_4
  try clear hcz17_0
  try clear hcz17_1
  try clear hcz17_2
  try clear hcz17_3
  try clear hcz17_4
  try clear hcz18_0
  try clear hcz18_1
  try clear hcz18_2
  try clear hcz18_3
  try clear hcz18_4
  try clear hcz20_0
  try clear hcz20_1
  try clear hcz20_2
  try clear hcz20_3
  try clear hcz20_4
  try clear hcz21_0
  try clear hcz21_1
  try clear hcz21_2
  try clear hcz21_3
  try clear hcz21_4
  try clear hcz23_0
  try clear hcz23_1
  try clear hcz23_2
  try clear hcz23_3
  try clear hcz23_4
  try clear hcz24_0
  try clear hcz24_1
  try clear hcz24_2
  try clear hcz24_3
  try clear hcz24_4
  try clear hfz11_0
  try clear hfz11_1
  try clear hfz11_2
  try clear hfz11_3
  try clear hfz11_4
  try clear hfz12_0
  try clear hfz12_1
  try clear hfz12_2
  try clear hfz12_3
  try clear hfz12_4
  try clear hfz14_0
  try clear hfz14_1
  try clear hfz14_2
  try clear hfz14_3
  try clear hfz14_4
  try clear hfz15_0
  try clear hfz15_1
  try clear hfz15_2
  try clear hfz15_3
  try clear hfz15_4
  try clear hfz17_0
  try clear hfz17_1
  try clear hfz17_2
  try clear hfz17_3
  try clear hfz17_4
  try clear hfz18_0
  try clear hfz18_1
  try clear hfz18_2
  try clear hfz18_3
  try clear hfz18_4
  try clear hfz20_0
  try clear hfz20_1
  try clear hfz20_2
  try clear hfz20_3
  try clear hfz20_4
  try clear hfz21_0
  try clear hfz21_1
  try clear hfz21_2
  try clear hfz21_3
  try clear hfz21_4
  try clear hfz23_0
  try clear hfz23_1
  try clear hfz23_2
  try clear hfz23_3
  try clear hfz23_4
  try clear hfz24_0
  try clear hfz24_1
  try clear hfz24_2
  try clear hfz24_3
  try clear hfz24_4
  obtain ⟨kq, x40_2, rfl, HA, HJ2, BK248, BK249, HB⟩ := hcut
  cases kq with
  | zero => exact absurd HA.out (by simp [codec_Equal.j0])
  | succ kj2 =>
   have H := HA.out
   clear HA
   simp only [codec_Equal.j0] at H
   by_cases c25 : x40_2 = true
   ·
    subst c25
    have H1 : (some false) = some r := by rw [if_pos rfl] at H; exact H
    clear H
    have H := H1
    clear H1
    obtain rfl := Option.some.inj H
    go_wp2
    go_ret
    exact ⟨ez, hz2 HB.out GE248.out GE249.out⟩
   ·
    replace c25 := Bool.eq_false_iff.mpr c25
    subst c25
    have H1 : (codec_Equal.l0 kj2 (l0_4.length : Int) 0 a0_0 a0_1 a0_2 a0_3 l0_4 a1_0 a1_1 a1_2 a1_3 l1_4) = some r := by rw [if_neg (show ¬ (false = true) by decide)] at H; exact H
    clear H
    have H := H1
    clear H1
    have H' := am H
    clear H
    have hnb26 := NB248_249.out
    have hnc26 := NB249_248.out
    have hcz27_0 : wc.cell? ⟨gb248, 0, none⟩ = some (.int .i64 a0_0) := (blk_cell BK248.out 0).trans rfl
    have hcz27_1 : wc.cell? ⟨gb248, 1, none⟩ = some (.int .i64 a0_1) := (blk_cell BK248.out 1).trans rfl
    have hcz27_2 : wc.cell? ⟨gb248, 2, none⟩ = some (.int .i64 a0_2) := (blk_cell BK248.out 2).trans rfl
    have hcz27_3 : wc.cell? ⟨gb248, 3, none⟩ = some (.string a0_3) := (blk_cell BK248.out 3).trans rfl
    have hcz27_4 : wc.cell? ⟨gb248, 4, none⟩ = some (.slice A0_4 l0_4.length c0_4) := (blk_cell BK248.out 4).trans rfl
    have hfz27_0 := blk_frozen BK248.out 0
    have hfz27_1 := blk_frozen BK248.out 1
    have hfz27_2 := blk_frozen BK248.out 2
    have hfz27_3 := blk_frozen BK248.out 3
    have hfz27_4 := blk_frozen BK248.out 4
    go_wp2
    go_loopg [44] kj2 (fun kq v44 w' => ∃ (x44_2 : Int), v44 = .int .i64 x44_2 ∧ Aside0 (codec_Equal.l0 kq (l0_4.length : Int) x44_2 a0_0 a0_1 a0_2 a0_3 l0_4 a1_0 a1_1 a1_2 a1_3 l1_4 = some r) ∧ Aside0 (kq ≤ kj2) ∧ Aside0 (w'.heap[gb248]? = some (.cells #[.int .i64 a0_0, .int .i64 a0_1, .int .i64 a0_2, .string a0_3, (.slice A0_4 l0_4.length c0_4)] 24 (0, 0))) ∧ Aside0 (w'.heap[gb249]? = some (.cells #[.int .i64 a1_0, .int .i64 a1_1, .int .i64 a1_2, .string a1_3, (.slice A1_4 l1_4.length c1_4)] 24 (0, 0))) ∧ Aside0 (Below w.heap.size w w'))
    case atStart => exact ⟨(0), (by first | rfl | (simp; done) | (simp [*]; done)), H', ⟨Nat.le_refl _⟩, ⟨by (with_reducible repeat (first | refine blk_drewN ?_ _ | refine blk_drew ?_ | refine blk_alloc ?_ _)); exact BK248.out⟩, ⟨by (with_reducible repeat (first | refine blk_drewN ?_ _ | refine blk_drew ?_ | refine blk_alloc ?_ _)); exact BK249.out⟩, ⟨hz2 HB.out GE248.out GE249.out⟩⟩
    case round =>
     clear H'
     try clear c1
     try clear c2
     try clear p2
     try clear c6
     try clear c6b0
     try clear c6b1
     try clear c7
     try clear c7b0
     try clear c7b1
     try clear c8
     try clear c8b0
     try clear c8b1
     try clear c9
     try clear c9b0
     try clear c9b1
     try clear c10
     try clear c13
     try clear c14
     try clear c16
     try clear c19
     try clear c22
     try clear c25
     try clear c26
     try clear hcz11_0
     try clear hcz11_1
     try clear hcz11_2
     try clear hcz11_3
     try clear hcz11_4
     try clear hcz12_0
     try clear hcz12_1
     try clear hcz12_2
     try clear hcz12_3
     try clear hcz12_4
     try clear hcz14_0
     try clear hcz14_1
     try clear hcz14_2
     try clear hcz14_3
     try clear hcz14_4
     try clear hcz15_0
     try clear hcz15_1
     try clear hcz15_2
     try clear hcz15_3
     try clear hcz15_4
     try clear hcz17_0
     try clear hcz17_1
     try clear hcz17_2
     try clear hcz17_3
     try clear hcz17_4
     try clear hcz18_0
     try clear hcz18_1
     try clear hcz18_2
     try clear hcz18_3
     try clear hcz18_4
     try clear hcz20_0
     try clear hcz20_1
     try clear hcz20_2
     try clear hcz20_3
     try clear hcz20_4
     try clear hcz21_0
     try clear hcz21_1
     try clear hcz21_2
     try clear hcz21_3
     try clear hcz21_4
     try clear hcz23_0
     try clear hcz23_1
     try clear hcz23_2
     try clear hcz23_3
     try clear hcz23_4
     try clear hcz24_0
     try clear hcz24_1
     try clear hcz24_2
     try clear hcz24_3
     try clear hcz24_4
     try clear hcz27_0
     try clear hcz27_1
     try clear hcz27_2
     try clear hcz27_3
     try clear hcz27_4
     try clear hfz11_0
     try clear hfz11_1
     try clear hfz11_2
     try clear hfz11_3
     try clear hfz11_4
     try clear hfz12_0
     try clear hfz12_1
     try clear hfz12_2
     try clear hfz12_3
     try clear hfz12_4
     try clear hfz14_0
     try clear hfz14_1
     try clear hfz14_2
     try clear hfz14_3
     try clear hfz14_4
     try clear hfz15_0
     try clear hfz15_1
     try clear hfz15_2
     try clear hfz15_3
     try clear hfz15_4
     try clear hfz17_0
     try clear hfz17_1
     try clear hfz17_2
     try clear hfz17_3
     try clear hfz17_4
     try clear hfz18_0
     try clear hfz18_1
     try clear hfz18_2
     try clear hfz18_3
     try clear hfz18_4
     try clear hfz20_0
     try clear hfz20_1
     try clear hfz20_2
     try clear hfz20_3
     try clear hfz20_4
     try clear hfz21_0
     try clear hfz21_1
     try clear hfz21_2
     try clear hfz21_3
     try clear hfz21_4
     try clear hfz23_0
     try clear hfz23_1
     try clear hfz23_2
     try clear hfz23_3
     try clear hfz23_4
     try clear hfz24_0
     try clear hfz24_1
     try clear hfz24_2
     try clear hfz24_3
     try clear hfz24_4
     try clear hfz27_0
     try clear hfz27_1
     try clear hfz27_2
     try clear hfz27_3
     try clear hfz27_4
     try clear p2
     obtain ⟨x44_2, rfl, HA, HK2, BK248, BK249, HB⟩ := hrel
     cases gk with
     | zero => exact absurd HA.out (by simp [codec_Equal.l0])
     | succ k2 =>
      have H := HA.out
      clear HA
      simp only [codec_Equal.l0] at H
      by_cases c28 : x44_2 < (l0_4.length : Int)
      ·
       rw [if_pos c28] at H
       have c28b0 : decide (x44_2 < (l0_4.length : Int)) = true := decide_eq_true c28
       clear c28
       replace H := it_ H
       obtain ⟨c29, H⟩ := H
       have c29b0 : decide (0 ≤ x44_2) = true := decide_eq_true c29
       clear c29
       replace H := it_ H
       obtain ⟨c30, H⟩ := H
       have c30b0 : decide (x44_2 < (l0_4.length : Int)) = true := decide_eq_true c30
       clear c30
       replace H := it_ H
       obtain ⟨c31, H⟩ := H
       have c31b0 : decide (x44_2 < (l1_4.length : Int)) = true := decide_eq_true c31
       clear c31
       replace H := Option.bind_eq_some_iff.mp H
       obtain ⟨t252, A320, H⟩ := H
       replace H : (if t252 = true then (codec_Equal.l0 k2 (l0_4.length : Int) (wrap64 (x44_2 + 1)) a0_0 a0_1 a0_2 a0_3 l0_4 a1_0 a1_1 a1_2 a1_3 l1_4) else (some false)) = some r := H
       have A32 := am A320
       clear A320
       by_cases c33 : t252 = true
       ·
        subst c33
        have H1 : (codec_Equal.l0 k2 (l0_4.length : Int) (wrap64 (x44_2 + 1)) a0_0 a0_1 a0_2 a0_3 l0_4 a1_0 a1_1 a1_2 a1_3 l1_4) = some r := by rw [if_pos rfl] at H; exact H
        clear H
        have H := H1
        clear H1
        have H' := am H
        clear H
        try go_wp2
        replace BK248 := am (blk_drew BK248.out)
        replace BK249 := am (blk_drew BK249.out)
        replace HB := am (below_drew1 HB.out)
        have p250 : 0 ≤ (x44_2 : Int) := of_decide_eq_true az
        have q250 : x44_2 < (l0_4.length : Int) := of_decide_eq_true az
        obtain ⟨ad250, A250_4, c250_4, e250, hx250_0, hx250_1, hx250_2, hx250_3, hx250_4, hl250_4, hi250_4⟩ := at_T24 HR0_4.out x44_2 p250 q250
        have hw250_4 := hx250_4
        have hw250_3 := hx250_3
        have hw250_2 := hx250_2
        have hw250_1 := hx250_1
        have hw250_0 := hx250_0
        cases e250
        replace hx250_0 := (HB.out.cell (World.block_lt_of_cell? w _ hx250_0)).trans hx250_0
        replace hx250_1 := (HB.out.cell (World.block_lt_of_cell? w _ hx250_1)).trans hx250_1
        replace hx250_2 := (HB.out.cell (World.block_lt_of_cell? w _ hx250_2)).trans hx250_2
        replace hx250_3 := (HB.out.cell (World.block_lt_of_cell? w _ hx250_3)).trans hx250_3
        replace hx250_4 := (HB.out.cell (World.block_lt_of_cell? w _ hx250_4)).trans hx250_4
        have HR250_4 := am hi250_4
        have HC250_4 := am hl250_4
        clear hi250_4 hl250_4
        replace p250 := eq_true p250
        replace q250 := eq_true q250
        have p251 : 0 ≤ (x44_2 : Int) := of_decide_eq_true az
        have q251 : x44_2 < (l1_4.length : Int) := of_decide_eq_true az
        obtain ⟨ad251, A251_4, c251_4, e251, hx251_0, hx251_1, hx251_2, hx251_3, hx251_4, hl251_4, hi251_4⟩ := at_T24 HR1_4.out x44_2 p251 q251
        have hw251_4 := hx251_4
        have hw251_3 := hx251_3
        have hw251_2 := hx251_2
        have hw251_1 := hx251_1
        have hw251_0 := hx251_0
        cases e251
        replace hx251_0 := (HB.out.cell (World.block_lt_of_cell? w _ hx251_0)).trans hx251_0
        replace hx251_1 := (HB.out.cell (World.block_lt_of_cell? w _ hx251_1)).trans hx251_1
        replace hx251_2 := (HB.out.cell (World.block_lt_of_cell? w _ hx251_2)).trans hx251_2
        replace hx251_3 := (HB.out.cell (World.block_lt_of_cell? w _ hx251_3)).trans hx251_3
        replace hx251_4 := (HB.out.cell (World.block_lt_of_cell? w _ hx251_4)).trans hx251_4
        have HR251_4 := am hi251_4
        have HC251_4 := am hl251_4
        clear hi251_4 hl251_4
        replace p251 := eq_true p251
        replace q251 := eq_true q251
        refine start_ (n := 12) (S := fun w' => w'.cell? ⟨gb248, 0, none⟩ = some (.int .i64 a0_0) ∧ w'.cell? ⟨gb248, 1, none⟩ = some (.int .i64 a0_1) ∧ w'.cell? ⟨gb248, 2, none⟩ = some (.int .i64 a0_2) ∧ w'.cell? ⟨gb248, 3, none⟩ = some (.string a0_3) ∧ w'.cell? ⟨gb248, 4, none⟩ = some (.slice (some ad250) l0_4.length c0_4) ∧ w'.cell? ⟨gb249, 0, none⟩ = some (.int .i64 a1_0) ∧ w'.cell? ⟨gb249, 1, none⟩ = some (.int .i64 a1_1) ∧ w'.cell? ⟨gb249, 2, none⟩ = some (.int .i64 a1_2) ∧ w'.cell? ⟨gb249, 3, none⟩ = some (.string a1_3) ∧ w'.cell? ⟨gb249, 4, none⟩ = some (.slice (some ad251) l1_4.length c1_4) ∧ w'.cell? (ad250.add ((x44_2).toNat * 5)) = some (.int .i64 ((rd_T24 l0_4 x44_2).f0)) ∧ w'.cell? ⟨(ad250.add ((x44_2).toNat * 5)).block, (ad250.add ((x44_2).toNat * 5)).off + 1, none⟩ = some (.int .i64 ((rd_T24 l0_4 x44_2).f1)) ∧ w'.cell? ⟨(ad250.add ((x44_2).toNat * 5)).block, (ad250.add ((x44_2).toNat * 5)).off + 2, none⟩ = some (.int .i64 ((rd_T24 l0_4 x44_2).f2)) ∧ w'.cell? ⟨(ad250.add ((x44_2).toNat * 5)).block, (ad250.add ((x44_2).toNat * 5)).off + 3, none⟩ = some (.string ((rd_T24 l0_4 x44_2).f3)) ∧ w'.cell? ⟨(ad250.add ((x44_2).toNat * 5)).block, (ad250.add ((x44_2).toNat * 5)).off + 4, none⟩ = some (.slice A250_4 ((rd_T24 l0_4 x44_2).f4).length c250_4) ∧ w'.cell? (ad251.add ((x44_2).toNat * 5)) = some (.int .i64 ((rd_T24 l1_4 x44_2).f0)) ∧ w'.cell? ⟨(ad251.add ((x44_2).toNat * 5)).block, (ad251.add ((x44_2).toNat * 5)).off + 1, none⟩ = some (.int .i64 ((rd_T24 l1_4 x44_2).f1)) ∧ w'.cell? ⟨(ad251.add ((x44_2).toNat * 5)).block, (ad251.add ((x44_2).toNat * 5)).off + 2, none⟩ = some (.int .i64 ((rd_T24 l1_4 x44_2).f2)) ∧ w'.cell? ⟨(ad251.add ((x44_2).toNat * 5)).block, (ad251.add ((x44_2).toNat * 5)).off + 3, none⟩ = some (.string ((rd_T24 l1_4 x44_2).f3)) ∧ w'.cell? ⟨(ad251.add ((x44_2).toNat * 5)).block, (ad251.add ((x44_2).toNat * 5)).off + 4, none⟩ = some (.slice A251_4 ((rd_T24 l1_4 x44_2).f4).length c251_4)) (ds := []) #[false, false, false, false, false, false, false, false, false, false, false, false] (by kernel_rfl) rfl rfl ⟨(blk_cell BK248.out 0).trans rfl, (blk_cell BK248.out 1).trans rfl, (blk_cell BK248.out 2).trans rfl, (blk_cell BK248.out 3).trans rfl, (blk_cell BK248.out 4).trans rfl, (blk_cell BK249.out 0).trans rfl, (blk_cell BK249.out 1).trans rfl, (blk_cell BK249.out 2).trans rfl, (blk_cell BK249.out 3).trans rfl, (blk_cell BK249.out 4).trans rfl, ((HB.out.cell (World.block_lt_of_cell? w _ hw250_0)).trans hw250_0), ((HB.out.cell (World.block_lt_of_cell? w _ hw250_1)).trans hw250_1), ((HB.out.cell (World.block_lt_of_cell? w _ hw250_2)).trans hw250_2), ((HB.out.cell (World.block_lt_of_cell? w _ hw250_3)).trans hw250_3), ((HB.out.cell (World.block_lt_of_cell? w _ hw250_4)).trans hw250_4), ((HB.out.cell (World.block_lt_of_cell? w _ hw251_0)).trans hw251_0), ((HB.out.cell (World.block_lt_of_cell? w _ hw251_1)).trans hw251_1), ((HB.out.cell (World.block_lt_of_cell? w _ hw251_2)).trans hw251_2), ((HB.out.cell (World.block_lt_of_cell? w _ hw251_3)).trans hw251_3), ((HB.out.cell (World.block_lt_of_cell? w _ hw251_4)).trans hw251_4)⟩ (fun hHeld => ?_); refine with_tabW codec_Equal.tab6 codec_Equal.bits6 (fun HT_ HW_ => ?_)
        generalize wr.drew = w34 at BK248 BK249 HB HR250_4 HR251_4 hx250_0 hx250_1 hx250_2 hx250_3 hx250_4 hx251_0 hx251_1 hx251_2 hx251_3 hx251_4 hHeld ⊢
        refine pz 0 47 HT_.out ?_
        refine pz 2 49 HT_.out ?_
        refine pz 5 52 HT_.out ?_
        refine pz 7 54 HT_.out ?_
        refine take_ (i := 1) (N := some 48) (v := ?_) (a' := ?_) #[true, true, true, false, false, true, false, true, false, false, false, false] rfl rfl (take_ofW HT_.out HW_.out (by kernel_rfl)) (fun _ _ _ h => h) (Or.inl ⟨by rfl, ?_⟩) hHeld ?_ ?_
        rotate_left
        ·
         rintro w' ⟨s0, s1, s2, s3, s4, s5, s6, s7, s8, s9, s10, s11, s12, s13, s14, s15, s16, s17, s18, s19⟩
         go_simp
         with_reducible rfl
        rotate_left
        ·
         simp only [Act.put, List.setIfInBounds_toArray, List.set_cons_zero, List.set_cons_succ, i64_w, i32_w]
         rfl
        refine pz 3 50 HT_.out ?_
        refine take_ (i := 4) (N := some 51) (v := ?_) (a' := ?_) #[true, true, true, true, true, true, false, true, false, false, false, false] rfl rfl (take_ofW HT_.out HW_.out (by kernel_rfl)) (fun _ _ _ h => h) (Or.inl ⟨by rfl, ?_⟩) hHeld ?_ ?_
        rotate_left
        ·
         rintro w' ⟨s0, s1, s2, s3, s4, s5, s6, s7, s8, s9, s10, s11, s12, s13, s14, s15, s16, s17, s18, s19⟩
         go_simp
         with_reducible rfl
        rotate_left
        ·
         simp only [Act.put, List.setIfInBounds_toArray, List.set_cons_zero, List.set_cons_succ, i64_w, i32_w]
         rfl
        refine take_ (i := 6) (N := some 53) (v := ?_) (a' := ?_) #[true, true, true, true, true, true, true, true, false, false, false, false] rfl rfl (take_ofW HT_.out HW_.out (by kernel_rfl)) (fun _ _ _ h => h) (Or.inl ⟨by rfl, ?_⟩) hHeld ?_ ?_
        rotate_left
        ·
         rintro w' ⟨s0, s1, s2, s3, s4, s5, s6, s7, s8, s9, s10, s11, s12, s13, s14, s15, s16, s17, s18, s19⟩
         go_simp
         with_reducible rfl
        rotate_left
        ·
         simp only [Act.put, List.setIfInBounds_toArray, List.set_cons_zero, List.set_cons_succ, i64_w, i32_w]
         rfl
        refine pz 8 55 HT_.out ?_
        refine take_ (i := 9) (N := some 56) (v := ?_) (a' := ?_) #[true, true, true, true, true, true, true, true, true, true, false, false] rfl rfl (take_ofW HT_.out HW_.out (by kernel_rfl)) (fun _ _ _ h => h) (Or.inl ⟨by rfl, ?_⟩) hHeld ?_ ?_
        rotate_left
        ·
         rintro w' ⟨s0, s1, s2, s3, s4, s5, s6, s7, s8, s9, s10, s11, s12, s13, s14, s15, s16, s17, s18, s19⟩
         go_simp
         with_reducible rfl
        rotate_left
        ·
         simp only [Act.put, List.setIfInBounds_toArray, List.set_cons_zero, List.set_cons_succ, i64_w, i32_w]
         rfl
        refine oz 10 57 HT_.out (fun K hK => ?_)
        refine goes_ Try.func14 (by kernel_rfl) rfl #[.agg #[.int .i64 ((rd_T24 l0_4 x44_2).f0), .int .i64 ((rd_T24 l0_4 x44_2).f1), .int .i64 ((rd_T24 l0_4 x44_2).f2), .string ((rd_T24 l0_4 x44_2).f3), .slice A250_4 ((rd_T24 l0_4 x44_2).f4).length c250_4], .agg #[.int .i64 ((rd_T24 l1_4 x44_2).f0), .int .i64 ((rd_T24 l1_4 x44_2).f1), .int .i64 ((rd_T24 l1_4 x44_2).f2), .string ((rd_T24 l1_4 x44_2).f3), .slice A251_4 ((rd_T24 l1_4 x44_2).f4).length c251_4]] (by rfl) rfl rfl lz ?_
        with_reducible refine (ih k2 (by have := HJ2.out; have := HK2.out; omega) ((rd_T24 l0_4 x44_2).f0) ((rd_T24 l0_4 x44_2).f1) ((rd_T24 l0_4 x44_2).f2) ((rd_T24 l0_4 x44_2).f3) _ _ ((rd_T24 l0_4 x44_2).f4) ((rd_T24 l1_4 x44_2).f0) ((rd_T24 l1_4 x44_2).f1) ((rd_T24 l1_4 x44_2).f2) ((rd_T24 l1_4 x44_2).f3) _ _ ((rd_T24 l1_4 x44_2).f4) true _ ?side1 ?side2 ?side3 ?side4 A32.out).mono ?_
        (case side1 => exact cz (Kd.C_below HR250_4.out HB.out))
        (case side2 => exact HC250_4.out)
        (case side3 => exact cz (Kd.C_below HR251_4.out HB.out))
        (case side4 => exact HC251_4.out)
        rintro e w35 ⟨rfl, hb⟩
        refine ⟨_, rfl, ?_⟩
        replace BK248 := am (blk_below (bz BK248.out) hb)
        replace BK249 := am (blk_below (bz BK249.out) hb)
        replace HB := am (below_step (hz2 HB.out GE248.out GE249.out) hb)
        (try clear hb)
        (try clear hb2)
        (try clear hk)
        (try clear hi)
        refine hK.out _ _ ⟨(blk_cell BK248.out 0).trans rfl, (blk_cell BK248.out 1).trans rfl, (blk_cell BK248.out 2).trans rfl, (blk_cell BK248.out 3).trans rfl, (blk_cell BK248.out 4).trans rfl, (blk_cell BK249.out 0).trans rfl, (blk_cell BK249.out 1).trans rfl, (blk_cell BK249.out 2).trans rfl, (blk_cell BK249.out 3).trans rfl, (blk_cell BK249.out 4).trans rfl, ((HB.out.cell (World.block_lt_of_cell? w _ hw250_0)).trans hw250_0), ((HB.out.cell (World.block_lt_of_cell? w _ hw250_1)).trans hw250_1), ((HB.out.cell (World.block_lt_of_cell? w _ hw250_2)).trans hw250_2), ((HB.out.cell (World.block_lt_of_cell? w _ hw250_3)).trans hw250_3), ((HB.out.cell (World.block_lt_of_cell? w _ hw250_4)).trans hw250_4), ((HB.out.cell (World.block_lt_of_cell? w _ hw251_0)).trans hw251_0), ((HB.out.cell (World.block_lt_of_cell? w _ hw251_1)).trans hw251_1), ((HB.out.cell (World.block_lt_of_cell? w _ hw251_2)).trans hw251_2), ((HB.out.cell (World.block_lt_of_cell? w _ hw251_3)).trans hw251_3), ((HB.out.cell (World.block_lt_of_cell? w _ hw251_4)).trans hw251_4)⟩ (fun hHeld => ?_)
        clear hK K
        refine norm_ (a' := ?_) ?_ ?_
        rotate_left
        ·
         show Act.put _ (some 57) _ = _
         simp only [Act.put, List.setIfInBounds_toArray, List.set_cons_zero, List.set_cons_succ, i64_w, i32_w]
         rfl
        refine pz 11 58 HT_.out ?_
        refine done_ (done_of HT_.out (by kernel_rfl)) ?_
        try go_wp2
        go_roundg k2
        case measure => have := HJ2.out; have := HK2.out; omega
        case rel => exact ⟨(wrap64 (x44_2 + 1)), (by first | rfl | (simp; done) | (simp [*]; done)), H', ⟨by have := HJ2.out; have := HK2.out; omega⟩, ⟨by (with_reducible repeat (first | refine blk_drewN ?_ _ | refine blk_drew ?_ | refine blk_alloc ?_ _)); exact BK248.out⟩, ⟨by (with_reducible repeat (first | refine blk_drewN ?_ _ | refine blk_drew ?_ | refine blk_alloc ?_ _)); exact BK249.out⟩, ⟨hz2 HB.out GE248.out GE249.out⟩⟩
       ·
        replace c33 := Bool.eq_false_iff.mpr c33
        subst c33
        have H1 : (some false) = some r := by rw [if_neg (show ¬ (false = true) by decide)] at H; exact H
        clear H
        have H := H1
        clear H1
        obtain rfl := Option.some.inj H
        try go_wp2
        replace BK248 := am (blk_drew BK248.out)
        replace BK249 := am (blk_drew BK249.out)
        replace HB := am (below_drew1 HB.out)
        have p250 : 0 ≤ (x44_2 : Int) := of_decide_eq_true az
        have q250 : x44_2 < (l0_4.length : Int) := of_decide_eq_true az
        obtain ⟨ad250, A250_4, c250_4, e250, hx250_0, hx250_1, hx250_2, hx250_3, hx250_4, hl250_4, hi250_4⟩ := at_T24 HR0_4.out x44_2 p250 q250
        have hw250_4 := hx250_4
        have hw250_3 := hx250_3
        have hw250_2 := hx250_2
        have hw250_1 := hx250_1
        have hw250_0 := hx250_0
        cases e250
        replace hx250_0 := (HB.out.cell (World.block_lt_of_cell? w _ hx250_0)).trans hx250_0
        replace hx250_1 := (HB.out.cell (World.block_lt_of_cell? w _ hx250_1)).trans hx250_1
        replace hx250_2 := (HB.out.cell (World.block_lt_of_cell? w _ hx250_2)).trans hx250_2
        replace hx250_3 := (HB.out.cell (World.block_lt_of_cell? w _ hx250_3)).trans hx250_3
        replace hx250_4 := (HB.out.cell (World.block_lt_of_cell? w _ hx250_4)).trans hx250_4
        have HR250_4 := am hi250_4
        have HC250_4 := am hl250_4
        clear hi250_4 hl250_4
        replace p250 := eq_true p250
        replace q250 := eq_true q250
        have p251 : 0 ≤ (x44_2 : Int) := of_decide_eq_true az
        have q251 : x44_2 < (l1_4.length : Int) := of_decide_eq_true az
        obtain ⟨ad251, A251_4, c251_4, e251, hx251_0, hx251_1, hx251_2, hx251_3, hx251_4, hl251_4, hi251_4⟩ := at_T24 HR1_4.out x44_2 p251 q251
        have hw251_4 := hx251_4
        have hw251_3 := hx251_3
        have hw251_2 := hx251_2
        have hw251_1 := hx251_1
        have hw251_0 := hx251_0
        cases e251
        replace hx251_0 := (HB.out.cell (World.block_lt_of_cell? w _ hx251_0)).trans hx251_0
        replace hx251_1 := (HB.out.cell (World.block_lt_of_cell? w _ hx251_1)).trans hx251_1
        replace hx251_2 := (HB.out.cell (World.block_lt_of_cell? w _ hx251_2)).trans hx251_2
        replace hx251_3 := (HB.out.cell (World.block_lt_of_cell? w _ hx251_3)).trans hx251_3
        replace hx251_4 := (HB.out.cell (World.block_lt_of_cell? w _ hx251_4)).trans hx251_4
        have HR251_4 := am hi251_4
        have HC251_4 := am hl251_4
        clear hi251_4 hl251_4
        replace p251 := eq_true p251
        replace q251 := eq_true q251
        refine start_ (n := 12) (S := fun w' => w'.cell? ⟨gb248, 0, none⟩ = some (.int .i64 a0_0) ∧ w'.cell? ⟨gb248, 1, none⟩ = some (.int .i64 a0_1) ∧ w'.cell? ⟨gb248, 2, none⟩ = some (.int .i64 a0_2) ∧ w'.cell? ⟨gb248, 3, none⟩ = some (.string a0_3) ∧ w'.cell? ⟨gb248, 4, none⟩ = some (.slice (some ad250) l0_4.length c0_4) ∧ w'.cell? ⟨gb249, 0, none⟩ = some (.int .i64 a1_0) ∧ w'.cell? ⟨gb249, 1, none⟩ = some (.int .i64 a1_1) ∧ w'.cell? ⟨gb249, 2, none⟩ = some (.int .i64 a1_2) ∧ w'.cell? ⟨gb249, 3, none⟩ = some (.string a1_3) ∧ w'.cell? ⟨gb249, 4, none⟩ = some (.slice (some ad251) l1_4.length c1_4) ∧ w'.cell? (ad250.add ((x44_2).toNat * 5)) = some (.int .i64 ((rd_T24 l0_4 x44_2).f0)) ∧ w'.cell? ⟨(ad250.add ((x44_2).toNat * 5)).block, (ad250.add ((x44_2).toNat * 5)).off + 1, none⟩ = some (.int .i64 ((rd_T24 l0_4 x44_2).f1)) ∧ w'.cell? ⟨(ad250.add ((x44_2).toNat * 5)).block, (ad250.add ((x44_2).toNat * 5)).off + 2, none⟩ = some (.int .i64 ((rd_T24 l0_4 x44_2).f2)) ∧ w'.cell? ⟨(ad250.add ((x44_2).toNat * 5)).block, (ad250.add ((x44_2).toNat * 5)).off + 3, none⟩ = some (.string ((rd_T24 l0_4 x44_2).f3)) ∧ w'.cell? ⟨(ad250.add ((x44_2).toNat * 5)).block, (ad250.add ((x44_2).toNat * 5)).off + 4, none⟩ = some (.slice A250_4 ((rd_T24 l0_4 x44_2).f4).length c250_4) ∧ w'.cell? (ad251.add ((x44_2).toNat * 5)) = some (.int .i64 ((rd_T24 l1_4 x44_2).f0)) ∧ w'.cell? ⟨(ad251.add ((x44_2).toNat * 5)).block, (ad251.add ((x44_2).toNat * 5)).off + 1, none⟩ = some (.int .i64 ((rd_T24 l1_4 x44_2).f1)) ∧ w'.cell? ⟨(ad251.add ((x44_2).toNat * 5)).block, (ad251.add ((x44_2).toNat * 5)).off + 2, none⟩ = some (.int .i64 ((rd_T24 l1_4 x44_2).f2)) ∧ w'.cell? ⟨(ad251.add ((x44_2).toNat * 5)).block, (ad251.add ((x44_2).toNat * 5)).off + 3, none⟩ = some (.string ((rd_T24 l1_4 x44_2).f3)) ∧ w'.cell? ⟨(ad251.add ((x44_2).toNat * 5)).block, (ad251.add ((x44_2).toNat * 5)).off + 4, none⟩ = some (.slice A251_4 ((rd_T24 l1_4 x44_2).f4).length c251_4)) (ds := []) #[false, false, false, false, false, false, false, false, false, false, false, false] (by kernel_rfl) rfl rfl ⟨(blk_cell BK248.out 0).trans rfl, (blk_cell BK248.out 1).trans rfl, (blk_cell BK248.out 2).trans rfl, (blk_cell BK248.out 3).trans rfl, (blk_cell BK248.out 4).trans rfl, (blk_cell BK249.out 0).trans rfl, (blk_cell BK249.out 1).trans rfl, (blk_cell BK249.out 2).trans rfl, (blk_cell BK249.out 3).trans rfl, (blk_cell BK249.out 4).trans rfl, ((HB.out.cell (World.block_lt_of_cell? w _ hw250_0)).trans hw250_0), ((HB.out.cell (World.block_lt_of_cell? w _ hw250_1)).trans hw250_1), ((HB.out.cell (World.block_lt_of_cell? w _ hw250_2)).trans hw250_2), ((HB.out.cell (World.block_lt_of_cell? w _ hw250_3)).trans hw250_3), ((HB.out.cell (World.block_lt_of_cell? w _ hw250_4)).trans hw250_4), ((HB.out.cell (World.block_lt_of_cell? w _ hw251_0)).trans hw251_0), ((HB.out.cell (World.block_lt_of_cell? w _ hw251_1)).trans hw251_1), ((HB.out.cell (World.block_lt_of_cell? w _ hw251_2)).trans hw251_2), ((HB.out.cell (World.block_lt_of_cell? w _ hw251_3)).trans hw251_3), ((HB.out.cell (World.block_lt_of_cell? w _ hw251_4)).trans hw251_4)⟩ (fun hHeld => ?_); refine with_tabW codec_Equal.tab6 codec_Equal.bits6 (fun HT_ HW_ => ?_)
        generalize wr.drew = w36 at BK248 BK249 HB HR250_4 HR251_4 hx250_0 hx250_1 hx250_2 hx250_3 hx250_4 hx251_0 hx251_1 hx251_2 hx251_3 hx251_4 hHeld ⊢
        refine pz 0 47 HT_.out ?_
        refine pz 2 49 HT_.out ?_
        refine pz 5 52 HT_.out ?_
        refine pz 7 54 HT_.out ?_
        refine take_ (i := 1) (N := some 48) (v := ?_) (a' := ?_) #[true, true, true, false, false, true, false, true, false, false, false, false] rfl rfl (take_ofW HT_.out HW_.out (by kernel_rfl)) (fun _ _ _ h => h) (Or.inl ⟨by rfl, ?_⟩) hHeld ?_ ?_
        rotate_left
        ·
         rintro w' ⟨s0, s1, s2, s3, s4, s5, s6, s7, s8, s9, s10, s11, s12, s13, s14, s15, s16, s17, s18, s19⟩
         go_simp
         with_reducible rfl
        rotate_left
        ·
         simp only [Act.put, List.setIfInBounds_toArray, List.set_cons_zero, List.set_cons_succ, i64_w, i32_w]
         rfl
        refine pz 3 50 HT_.out ?_
        refine take_ (i := 4) (N := some 51) (v := ?_) (a' := ?_) #[true, true, true, true, true, true, false, true, false, false, false, false] rfl rfl (take_ofW HT_.out HW_.out (by kernel_rfl)) (fun _ _ _ h => h) (Or.inl ⟨by rfl, ?_⟩) hHeld ?_ ?_
        rotate_left
        ·
         rintro w' ⟨s0, s1, s2, s3, s4, s5, s6, s7, s8, s9, s10, s11, s12, s13, s14, s15, s16, s17, s18, s19⟩
         go_simp
         with_reducible rfl
        rotate_left
        ·
         simp only [Act.put, List.setIfInBounds_toArray, List.set_cons_zero, List.set_cons_succ, i64_w, i32_w]
         rfl
        refine take_ (i := 6) (N := some 53) (v := ?_) (a' := ?_) #[true, true, true, true, true, true, true, true, false, false, false, false] rfl rfl (take_ofW HT_.out HW_.out (by kernel_rfl)) (fun _ _ _ h => h) (Or.inl ⟨by rfl, ?_⟩) hHeld ?_ ?_
        rotate_left
        ·
         rintro w' ⟨s0, s1, s2, s3, s4, s5, s6, s7, s8, s9, s10, s11, s12, s13, s14, s15, s16, s17, s18, s19⟩
         go_simp
         with_reducible rfl
        rotate_left
        ·
         simp only [Act.put, List.setIfInBounds_toArray, List.set_cons_zero, List.set_cons_succ, i64_w, i32_w]
         rfl
        refine pz 8 55 HT_.out ?_
        refine take_ (i := 9) (N := some 56) (v := ?_) (a' := ?_) #[true, true, true, true, true, true, true, true, true, true, false, false] rfl rfl (take_ofW HT_.out HW_.out (by kernel_rfl)) (fun _ _ _ h => h) (Or.inl ⟨by rfl, ?_⟩) hHeld ?_ ?_
        rotate_left
        ·
         rintro w' ⟨s0, s1, s2, s3, s4, s5, s6, s7, s8, s9, s10, s11, s12, s13, s14, s15, s16, s17, s18, s19⟩
         go_simp
         with_reducible rfl
        rotate_left
        ·
         simp only [Act.put, List.setIfInBounds_toArray, List.set_cons_zero, List.set_cons_succ, i64_w, i32_w]
         rfl
        refine oz 10 57 HT_.out (fun K hK => ?_)
        refine goes_ Try.func14 (by kernel_rfl) rfl #[.agg #[.int .i64 ((rd_T24 l0_4 x44_2).f0), .int .i64 ((rd_T24 l0_4 x44_2).f1), .int .i64 ((rd_T24 l0_4 x44_2).f2), .string ((rd_T24 l0_4 x44_2).f3), .slice A250_4 ((rd_T24 l0_4 x44_2).f4).length c250_4], .agg #[.int .i64 ((rd_T24 l1_4 x44_2).f0), .int .i64 ((rd_T24 l1_4 x44_2).f1), .int .i64 ((rd_T24 l1_4 x44_2).f2), .string ((rd_T24 l1_4 x44_2).f3), .slice A251_4 ((rd_T24 l1_4 x44_2).f4).length c251_4]] (by rfl) rfl rfl lz ?_
        with_reducible refine (ih k2 (by have := HJ2.out; have := HK2.out; omega) ((rd_T24 l0_4 x44_2).f0) ((rd_T24 l0_4 x44_2).f1) ((rd_T24 l0_4 x44_2).f2) ((rd_T24 l0_4 x44_2).f3) _ _ ((rd_T24 l0_4 x44_2).f4) ((rd_T24 l1_4 x44_2).f0) ((rd_T24 l1_4 x44_2).f1) ((rd_T24 l1_4 x44_2).f2) ((rd_T24 l1_4 x44_2).f3) _ _ ((rd_T24 l1_4 x44_2).f4) false _ ?side1 ?side2 ?side3 ?side4 A32.out).mono ?_
        (case side1 => exact cz (Kd.C_below HR250_4.out HB.out))
        (case side2 => exact HC250_4.out)
        (case side3 => exact cz (Kd.C_below HR251_4.out HB.out))
        (case side4 => exact HC251_4.out)
        rintro e w37 ⟨rfl, hb⟩
        refine ⟨_, rfl, ?_⟩
        replace BK248 := am (blk_below (bz BK248.out) hb)
        replace BK249 := am (blk_below (bz BK249.out) hb)
        replace HB := am (below_step (hz2 HB.out GE248.out GE249.out) hb)
        (try clear hb)
        (try clear hb2)
        (try clear hk)
        (try clear hi)
        refine hK.out _ _ ⟨(blk_cell BK248.out 0).trans rfl, (blk_cell BK248.out 1).trans rfl, (blk_cell BK248.out 2).trans rfl, (blk_cell BK248.out 3).trans rfl, (blk_cell BK248.out 4).trans rfl, (blk_cell BK249.out 0).trans rfl, (blk_cell BK249.out 1).trans rfl, (blk_cell BK249.out 2).trans rfl, (blk_cell BK249.out 3).trans rfl, (blk_cell BK249.out 4).trans rfl, ((HB.out.cell (World.block_lt_of_cell? w _ hw250_0)).trans hw250_0), ((HB.out.cell (World.block_lt_of_cell? w _ hw250_1)).trans hw250_1), ((HB.out.cell (World.block_lt_of_cell? w _ hw250_2)).trans hw250_2), ((HB.out.cell (World.block_lt_of_cell? w _ hw250_3)).trans hw250_3), ((HB.out.cell (World.block_lt_of_cell? w _ hw250_4)).trans hw250_4), ((HB.out.cell (World.block_lt_of_cell? w _ hw251_0)).trans hw251_0), ((HB.out.cell (World.block_lt_of_cell? w _ hw251_1)).trans hw251_1), ((HB.out.cell (World.block_lt_of_cell? w _ hw251_2)).trans hw251_2), ((HB.out.cell (World.block_lt_of_cell? w _ hw251_3)).trans hw251_3), ((HB.out.cell (World.block_lt_of_cell? w _ hw251_4)).trans hw251_4)⟩ (fun hHeld => ?_)
        clear hK K
        refine norm_ (a' := ?_) ?_ ?_
        rotate_left
        ·
         show Act.put _ (some 57) _ = _
         simp only [Act.put, List.setIfInBounds_toArray, List.set_cons_zero, List.set_cons_succ, i64_w, i32_w]
         rfl
        refine pz 11 58 HT_.out ?_
        refine done_ (done_of HT_.out (by kernel_rfl)) ?_
        try go_wp2
        go_ret
        exact ⟨ez, hz2 HB.out GE248.out GE249.out⟩
      ·
       rw [if_neg c28] at H
       have c28b0 : decide (x44_2 < (l0_4.length : Int)) = false := decide_eq_false c28
       clear c28
       obtain rfl := Option.some.inj H
       go_wp2
       go_ret
       exact ⟨ez, hz2 HB.out GE248.out GE249.out⟩

end Go.Proofs.Ytipjfhakcceebaa.Q
