/- Made by wip/myprint.py of this session (it drives the kit's printer): what the calls of the Go functions come to, as plain Lean functions, and the row of a law over them; without conditions. -/
import Derived.Test.YteeggfnailpcpaaDoorQx0
import Derived.Test.YteeggfnailpcpaaDoorQx1
namespace Go.Proofs.YteeggfnailpcpaaDoor.Q
open Go.RowKit Go.Proofs.YteeggfnailpcpaaDoorW.PrintWords Go.Proofs.YteeggfnailpcpaaDoorW.PrintLast Go.Proofs.YteeggfnailpcpaaDoorW.PrintMore
attribute [local go_sem] max2_int min2_int max_two min_two max_three min_three max_four min_four   -- for this text's walks alone
set_option linter.unusedVariables false
set_option linter.unusedSimpArgs false

/-! ### codec_size: function 42 -/
mutual
def codec_size.j0 : Nat → Int → Bool → Int → Int → Int → ByteArray → List (S43) → Option (Int)
 | 0, _, _, _, _, _, _, _ => none
 | k + 1, x1, x21, x108000, x108001, x108002, x108003, x108004 => if x21 = true then (some (-1)) else ((codec_varintSize.f k (IntKind.u64.wrap (x108000))).bind fun t108 => (if x108001 = 1 then (if x108003.toList = ([] : List UInt8) then (codec_size.j1 k (wrap64 (t108 + 1)) (decide ((x108004.length : Int) > 0)) x108000 x108001 x108002 x108003 x108004) else (codec_size.j1 k (wrap64 (t108 + 1)) true x108000 x108001 x108002 x108003 x108004)) else (if x108001 = 2 then (if x108002 = 0 then (if (x108004.length : Int) > 0 then (some (-1)) else (if (x108003.size : Int) > 2000 then (some (-1)) else ((codec_varintSize.f k (IntKind.u64.wrap ((x108003.size : Int)))).bind fun t111 => (some (wrap64 ((wrap64 ((wrap64 (t108 + 1)) + t111)) + (x108003.size : Int))))))) else (some (-1))) else (if x108001 = 3 then (if x108002 = 0 then (if x108003.toList = ([] : List UInt8) then (codec_size.j2 k x1 (wrap64 (t108 + 1)) (decide ((x108004.length : Int) > 1024)) x108000 x108001 x108002 x108003 x108004) else (codec_size.j2 k x1 (wrap64 (t108 + 1)) true x108000 x108001 x108002 x108003 x108004)) else (codec_size.j2 k x1 (wrap64 (t108 + 1)) true x108000 x108001 x108002 x108003 x108004)) else (some (-1))))))
def codec_size.j1 : Nat → Int → Bool → Int → Int → Int → ByteArray → List (S43) → Option (Int)
 | 0, _, _, _, _, _, _, _ => none
 | k + 1, x5, x39, x108000, x108001, x108002, x108003, x108004 => if x39 = true then (some (-1)) else ((codec_zigzag.f x108002).bind fun t109 => ((codec_varintSize.f k t109).bind fun t110 => (some (wrap64 (x5 + t110)))))
def codec_size.j2 : Nat → Int → Int → Bool → Int → Int → Int → ByteArray → List (S43) → Option (Int)
 | 0, _, _, _, _, _, _, _, _ => none
 | k + 1, x1, x5, x89, x108000, x108001, x108002, x108003, x108004 => if x89 = true then (some (-1)) else ((codec_varintSize.f k (IntKind.u64.wrap ((x108004.length : Int)))).bind fun t112 => (codec_size.l0 k x1 (wrap64 (x5 + t112)) x108004 (x108004.length : Int) 0))
def codec_size.l0 : Nat → Int → Int → List (S43) → Int → Int → Option (Int)
 | 0, _, _, _, _, _ => none
 | k + 1, x1, x6, x98, x99, x100 => if x100 < x99 then (if 0 ≤ x100 then (if x100 < (x98.length : Int) then ((codec_size.f k ((rd_T43 x98 x100).f0) ((rd_T43 x98 x100).f1) ((rd_T43 x98 x100).f2) ((rd_T43 x98 x100).f3) ((rd_T43 x98 x100).f4) (wrap64 (x1 + 1))).bind fun t115 => (if t115 < 0 then (some (-1)) else (if (wrap64 (x6 + t115)) > 1048576 then (some (-1)) else (codec_size.l0 k x1 (wrap64 (x6 + t115)) x98 x99 (wrap64 (x100 + 1)))))) else (none)) else (none)) else (some x6)
def codec_size.f : Nat → Int → Int → Int → ByteArray → List (S43) → Int → Option (Int)
 | 0, _, _, _, _, _, _ => none
 | k + 1, a0_0, a0_1, a0_2, a0_3, l0_4, a1 => if a1 > 8 then (codec_size.j0 k a1 true a0_0 a0_1 a0_2 a0_3 l0_4) else (if a0_0 < 0 then (codec_size.j0 k a1 true a0_0 a0_1 a0_2 a0_3 l0_4) else (codec_size.j0 k a1 (decide (a0_0 > 9999999)) a0_0 a0_1 a0_2 a0_3 l0_4))
end
theorem codec_size.mono_l : ∀ k, (∀ y0 y1 y2 y3 y4 y5, LeO (codec_size.f k y0 y1 y2 y3 y4 y5) (codec_size.f (k + 1) y0 y1 y2 y3 y4 y5)) ∧ (∀ y0 y1 y2 y3 y4 y5 y6, LeO (codec_size.j0 k y0 y1 y2 y3 y4 y5 y6) (codec_size.j0 (k + 1) y0 y1 y2 y3 y4 y5 y6)) ∧ (∀ y0 y1 y2 y3 y4 y5 y6, LeO (codec_size.j1 k y0 y1 y2 y3 y4 y5 y6) (codec_size.j1 (k + 1) y0 y1 y2 y3 y4 y5 y6)) ∧ (∀ y0 y1 y2 y3 y4 y5 y6 y7, LeO (codec_size.j2 k y0 y1 y2 y3 y4 y5 y6 y7) (codec_size.j2 (k + 1) y0 y1 y2 y3 y4 y5 y6 y7)) ∧ (∀ y0 y1 y2 y3 y4, LeO (codec_size.l0 k y0 y1 y2 y3 y4) (codec_size.l0 (k + 1) y0 y1 y2 y3 y4))
 | 0 => ⟨fun _ _ _ _ _ _ r h => by simp [codec_size.f] at h, fun _ _ _ _ _ _ _ r h => by simp [codec_size.j0] at h, fun _ _ _ _ _ _ _ r h => by simp [codec_size.j1] at h, fun _ _ _ _ _ _ _ _ r h => by simp [codec_size.j2] at h, fun _ _ _ _ _ r h => by simp [codec_size.l0] at h⟩
 | k + 1 => by
  obtain ⟨ih0, ih1, ih2, ih3, ih4⟩ := codec_size.mono_l k
  refine ⟨?_, ?_, ?_, ?_, ?_⟩
  ·
   intro y0 y1 y2 y3 y4 y5
   unfold codec_size.f
   repeat' first
   | (with_reducible exact ih0 _ _ _ _ _ _)
   | (with_reducible exact ih1 _ _ _ _ _ _ _)
   | (with_reducible exact ih2 _ _ _ _ _ _ _)
   | (with_reducible exact ih3 _ _ _ _ _ _ _ _)
   | (with_reducible exact ih4 _ _ _ _ _)
   | (with_reducible exact codec_varintSize.mono _ _)
   | (with_reducible exact LeO.refl _)
   | (with_reducible exact LeO.none _)
   | (with_reducible refine LeO.ite ?_ ?_)
   | (with_reducible refine LeO.bind ?_ (fun _ => ?_))
   | exact ih0 _ _ _ _ _ _
   | exact ih1 _ _ _ _ _ _ _
   | exact ih2 _ _ _ _ _ _ _
   | exact ih3 _ _ _ _ _ _ _ _
   | exact ih4 _ _ _ _ _
   | exact codec_varintSize.mono _ _
   | exact LeO.none _
   | refine LeO.ite ?_ ?_
   | refine LeO.bind ?_ (fun _ => ?_)
  ·
   intro y0 y1 y2 y3 y4 y5 y6
   unfold codec_size.j0
   repeat' first
   | (with_reducible exact ih0 _ _ _ _ _ _)
   | (with_reducible exact ih1 _ _ _ _ _ _ _)
   | (with_reducible exact ih2 _ _ _ _ _ _ _)
   | (with_reducible exact ih3 _ _ _ _ _ _ _ _)
   | (with_reducible exact ih4 _ _ _ _ _)
   | (with_reducible exact codec_varintSize.mono _ _)
   | (with_reducible exact LeO.refl _)
   | (with_reducible exact LeO.none _)
   | (with_reducible refine LeO.ite ?_ ?_)
   | (with_reducible refine LeO.bind ?_ (fun _ => ?_))
   | exact ih0 _ _ _ _ _ _
   | exact ih1 _ _ _ _ _ _ _
   | exact ih2 _ _ _ _ _ _ _
   | exact ih3 _ _ _ _ _ _ _ _
   | exact ih4 _ _ _ _ _
   | exact codec_varintSize.mono _ _
   | exact LeO.none _
   | refine LeO.ite ?_ ?_
   | refine LeO.bind ?_ (fun _ => ?_)
  ·
   intro y0 y1 y2 y3 y4 y5 y6
   unfold codec_size.j1
   repeat' first
   | (with_reducible exact ih0 _ _ _ _ _ _)
   | (with_reducible exact ih1 _ _ _ _ _ _ _)
   | (with_reducible exact ih2 _ _ _ _ _ _ _)
   | (with_reducible exact ih3 _ _ _ _ _ _ _ _)
   | (with_reducible exact ih4 _ _ _ _ _)
   | (with_reducible exact codec_varintSize.mono _ _)
   | (with_reducible exact LeO.refl _)
   | (with_reducible exact LeO.none _)
   | (with_reducible refine LeO.ite ?_ ?_)
   | (with_reducible refine LeO.bind ?_ (fun _ => ?_))
   | exact ih0 _ _ _ _ _ _
   | exact ih1 _ _ _ _ _ _ _
   | exact ih2 _ _ _ _ _ _ _
   | exact ih3 _ _ _ _ _ _ _ _
   | exact ih4 _ _ _ _ _
   | exact codec_varintSize.mono _ _
   | exact LeO.none _
   | refine LeO.ite ?_ ?_
   | refine LeO.bind ?_ (fun _ => ?_)
  ·
   intro y0 y1 y2 y3 y4 y5 y6 y7
   unfold codec_size.j2
   repeat' first
   | (with_reducible exact ih0 _ _ _ _ _ _)
   | (with_reducible exact ih1 _ _ _ _ _ _ _)
   | (with_reducible exact ih2 _ _ _ _ _ _ _)
   | (with_reducible exact ih3 _ _ _ _ _ _ _ _)
   | (with_reducible exact ih4 _ _ _ _ _)
   | (with_reducible exact codec_varintSize.mono _ _)
   | (with_reducible exact LeO.refl _)
   | (with_reducible exact LeO.none _)
   | (with_reducible refine LeO.ite ?_ ?_)
   | (with_reducible refine LeO.bind ?_ (fun _ => ?_))
   | exact ih0 _ _ _ _ _ _
   | exact ih1 _ _ _ _ _ _ _
   | exact ih2 _ _ _ _ _ _ _
   | exact ih3 _ _ _ _ _ _ _ _
   | exact ih4 _ _ _ _ _
   | exact codec_varintSize.mono _ _
   | exact LeO.none _
   | refine LeO.ite ?_ ?_
   | refine LeO.bind ?_ (fun _ => ?_)
  ·
   intro y0 y1 y2 y3 y4
   unfold codec_size.l0
   repeat' first
   | (with_reducible exact ih0 _ _ _ _ _ _)
   | (with_reducible exact ih1 _ _ _ _ _ _ _)
   | (with_reducible exact ih2 _ _ _ _ _ _ _)
   | (with_reducible exact ih3 _ _ _ _ _ _ _ _)
   | (with_reducible exact ih4 _ _ _ _ _)
   | (with_reducible exact codec_varintSize.mono _ _)
   | (with_reducible exact LeO.refl _)
   | (with_reducible exact LeO.none _)
   | (with_reducible refine LeO.ite ?_ ?_)
   | (with_reducible refine LeO.bind ?_ (fun _ => ?_))
   | exact ih0 _ _ _ _ _ _
   | exact ih1 _ _ _ _ _ _ _
   | exact ih2 _ _ _ _ _ _ _
   | exact ih3 _ _ _ _ _ _ _ _
   | exact ih4 _ _ _ _ _
   | exact codec_varintSize.mono _ _
   | exact LeO.none _
   | refine LeO.ite ?_ ?_
   | refine LeO.bind ?_ (fun _ => ?_)
theorem codec_size.mono : ∀ a0 a1 a2 a3 a4 a5 k, LeO (codec_size.f k a0 a1 a2 a3 a4 a5) (codec_size.f (k + 1) a0 a1 a2 a3 a4 a5) := by
 intro a0 a1 a2 a3 a4 a5 k
 obtain ⟨ih0, ih1, ih2, ih3, ih4⟩ := codec_size.mono_l k
 exact ih0 a0 a1 a2 a3 a4 a5
set_option maxHeartbeats 8000000 in
set_option maxRecDepth 100000 in
theorem codec_size.calls (k : Nat) : ∀ (a0_0 : Int) (a0_1 : Int) (a0_2 : Int) (a0_3 : ByteArray) (A0_4 : Option Addr) (c0_4 : Nat) (l0_4 : List (S43)) (a1 : Int) (r : Int) (w : World) (hr0_4 : Kd.C k43 w A0_4 l0_4.length l0_4) (hc0_4 : l0_4.length ≤ c0_4) (h : codec_size.f k a0_0 a0_1 a0_2 a0_3 l0_4 a1 = some r),
  Calls Tryd.prog 42 #[.agg #[.int .i64 a0_0, .int .i64 a0_1, .int .i64 a0_2, .string a0_3, .slice A0_4 l0_4.length c0_4], .int .i64 a1] w fun e w' => e = .returned (.int .i64 r) ∧ Below w.heap.size w w' := by
 induction k using Nat.strongRecOn with
 | _ k ih =>
 intro a0_0 a0_1 a0_2 a0_3 A0_4 c0_4 l0_4 a1 r w hr0_4 hc0_4 h
 cases k with
 | zero => exact absurd h (by simp [codec_size.f])
 | succ k =>
 simp only [codec_size.f] at h
 have hu43 := Tryd.underlying43
 have HR0_4 := am hr0_4
 have HC0_4 := am hc0_4
 clear hr0_4 hc0_4
 have HB := am (Below.refl w.heap.size w)
 have H : (if a1 > 8 then (codec_size.j0 k a1 true a0_0 a0_1 a0_2 a0_3 l0_4) else (if a0_0 < 0 then (codec_size.j0 k a1 true a0_0 a0_1 a0_2 a0_3 l0_4) else (codec_size.j0 k a1 (decide (a0_0 > 9999999)) a0_0 a0_1 a0_2 a0_3 l0_4))) = some r := h
 clear h
 have HC3 := am H
 clear H
 go_enter Tryd.func42, Tryd.ntmps42
 go_upto_region 1 with (first | ((with_reducible refine gate_dst (N := 2) rfl ?_); (try (refine gate_guard (by rfl) ?_; dsimp only)); refine box_event rfl (N := 2) rfl (cs := #[.int .i64 a0_0, .int .i64 a0_1, .int .i64 a0_2, .string a0_3, .slice A0_4 l0_4.length c0_4]) (t := 43) gz ?_; intro gb107 hg w4 hbox hb; have BK107 := am (hbox); have GW107 := am ((bs hg (hz HB.out) : w.heap.size ≤ gb107)); have GE107 := am ((bs hg (hz HB.out) : w.heap.size ≤ gb107)); replace HB := am (below_step (hz HB.out) hb); clear hb hbox hg))
 repeat (go_quiet (first | ((with_reducible refine gate_dst (N := 2) rfl ?_); (try (refine gate_guard (by rfl) ?_; dsimp only)); refine box_event rfl (N := 2) rfl (cs := #[.int .i64 a0_0, .int .i64 a0_1, .int .i64 a0_2, .string a0_3, .slice A0_4 l0_4.length c0_4]) (t := 43) gz ?_; intro gb107 hg w4 hbox hb; have BK107 := am (hbox); have GW107 := am ((bs hg (hz HB.out) : w.heap.size ≤ gb107)); have GE107 := am ((bs hg (hz HB.out) : w.heap.size ≤ gb107)); replace HB := am (below_step (hz HB.out) hb); clear hb hbox hg)); go_upto_region 1 with (first | ((with_reducible refine gate_dst (N := 2) rfl ?_); (try (refine gate_guard (by rfl) ?_; dsimp only)); refine box_event rfl (N := 2) rfl (cs := #[.int .i64 a0_0, .int .i64 a0_1, .int .i64 a0_2, .string a0_3, .slice A0_4 l0_4.length c0_4]) (t := 43) gz ?_; intro gb107 hg w4 hbox hb; have BK107 := am (hbox); have GW107 := am ((bs hg (hz HB.out) : w.heap.size ≤ gb107)); have GE107 := am ((bs hg (hz HB.out) : w.heap.size ≤ gb107)); replace HB := am (below_step (hz HB.out) hb); clear hb hbox hg)))
 (try simp only [Act.put, List.setIfInBounds_toArray, List.set_cons_zero, List.set_cons_succ])
 go_cut [21] (fun v21 wc => ∃ (kq : Nat) (x21_2 : Bool), v21 = .bool x21_2 ∧ Aside0 (codec_size.j0 kq a1 x21_2 a0_0 a0_1 a0_2 a0_3 l0_4 = some r) ∧ Aside0 (kq ≤ k) ∧ Aside0 (wc.heap[gb107]? = some (.cells #[.int .i64 a0_0, .int .i64 a0_1, .int .i64 a0_2, .string a0_3, (.slice A0_4 l0_4.length c0_4)] 43 (0, 0))) ∧ Aside0 (Below w.heap.size w wc))
 case first =>
  have H := HC3.out
  clear HC3
  by_cases c5 : a1 > 8
  ·
   rw [if_pos c5] at H
   have c5b0 : decide (8 < a1) = true := decide_eq_true c5
   clear c5
   (first | rw [c5b0] | (simp only [i64_w, i32_w]; rw [c5b0]) | skip)
   have H' := am H
   clear H
   go_wp2
   repeat (go_quiet (fail); try go_wp2)
   go_meet
   case rel => exact ⟨_, (true), rfz, H', ⟨by first | omega | exact Nat.le_refl _⟩, ⟨by (with_reducible repeat (first | refine blk_drewN ?_ _ | refine blk_drew ?_ | refine blk_alloc ?_ _)); exact BK107.out⟩, ⟨hz1 HB.out GE107.out⟩⟩
  ·
   rw [if_neg c5] at H
   have c5b0 : decide (8 < a1) = false := decide_eq_false c5
   clear c5
   (first | rw [c5b0] | (simp only [i64_w, i32_w]; rw [c5b0]) | skip)
   by_cases c6 : a0_0 < 0
   ·
    rw [if_pos c6] at H
    have c6b0 : decide (a0_0 < 0) = true := decide_eq_true c6
    clear c6
    have H' := am H
    clear H
    have hcz7_0 : w4.cell? ⟨gb107, 0, none⟩ = some (.int .i64 a0_0) := (blk_cell BK107.out 0).trans rfl
    have hcz7_1 : w4.cell? ⟨gb107, 1, none⟩ = some (.int .i64 a0_1) := (blk_cell BK107.out 1).trans rfl
    have hcz7_2 : w4.cell? ⟨gb107, 2, none⟩ = some (.int .i64 a0_2) := (blk_cell BK107.out 2).trans rfl
    have hcz7_3 : w4.cell? ⟨gb107, 3, none⟩ = some (.string a0_3) := (blk_cell BK107.out 3).trans rfl
    have hcz7_4 : w4.cell? ⟨gb107, 4, none⟩ = some (.slice A0_4 l0_4.length c0_4) := (blk_cell BK107.out 4).trans rfl
    have hfz7_0 := blk_frozen BK107.out 0
    have hfz7_1 := blk_frozen BK107.out 1
    have hfz7_2 := blk_frozen BK107.out 2
    have hfz7_3 := blk_frozen BK107.out 3
    have hfz7_4 := blk_frozen BK107.out 4
    go_wp2
    repeat (go_quiet (fail); try go_wp2)
    go_meet
    case rel => exact ⟨_, (true), rfz, H', ⟨by first | omega | exact Nat.le_refl _⟩, ⟨by (with_reducible repeat (first | refine blk_drewN ?_ _ | refine blk_drew ?_ | refine blk_alloc ?_ _)); exact BK107.out⟩, ⟨hz1 HB.out GE107.out⟩⟩
   ·
    rw [if_neg c6] at H
    have c6b0 : decide (a0_0 < 0) = false := decide_eq_false c6
    clear c6
    have H' := am H
    clear H
    have hcz8_0 : w4.cell? ⟨gb107, 0, none⟩ = some (.int .i64 a0_0) := (blk_cell BK107.out 0).trans rfl
    have hcz8_1 : w4.cell? ⟨gb107, 1, none⟩ = some (.int .i64 a0_1) := (blk_cell BK107.out 1).trans rfl
    have hcz8_2 : w4.cell? ⟨gb107, 2, none⟩ = some (.int .i64 a0_2) := (blk_cell BK107.out 2).trans rfl
    have hcz8_3 : w4.cell? ⟨gb107, 3, none⟩ = some (.string a0_3) := (blk_cell BK107.out 3).trans rfl
    have hcz8_4 : w4.cell? ⟨gb107, 4, none⟩ = some (.slice A0_4 l0_4.length c0_4) := (blk_cell BK107.out 4).trans rfl
    have hfz8_0 := blk_frozen BK107.out 0
    have hfz8_1 := blk_frozen BK107.out 1
    have hfz8_2 := blk_frozen BK107.out 2
    have hfz8_3 := blk_frozen BK107.out 3
    have hfz8_4 := blk_frozen BK107.out 4
    go_wp2
    repeat (go_quiet (fail); try go_wp2)
    go_meet
    case rel => exact ⟨_, (decide (a0_0 > 9999999)), rfz, H', ⟨by first | omega | exact Nat.le_refl _⟩, ⟨by (with_reducible repeat (first | refine blk_drewN ?_ _ | refine blk_drew ?_ | refine blk_alloc ?_ _)); exact BK107.out⟩, ⟨hz1 HB.out GE107.out⟩⟩
 case rest =>
  clear HC3
  obtain ⟨kq, x21_2, rfl, HA, HJ2, BK107, HB⟩ := hcut
  cases kq with
  | zero => exact absurd HA.out (by simp [codec_size.j0])
  | succ kj2 =>
   have H := HA.out
   clear HA
   simp only [codec_size.j0] at H
   by_cases c9 : x21_2 = true
   ·
    subst c9
    have H1 := H
    rw [if_pos rfl] at H1
    clear H
    have H := H1
    clear H1
    obtain rfl := Option.some.inj H
    go_wp2
    repeat (go_quiet (fail); try go_wp2)
    go_ret
    exact ⟨ez, hz1 HB.out GE107.out⟩
   ·
    replace c9 := Bool.eq_false_iff.mpr c9
    subst c9
    have H1 := H
    rw [if_neg (show ¬ (false = true) by decide)] at H1
    clear H
    have H := H1
    clear H1
    replace H := Option.bind_eq_some_iff.mp H
    obtain ⟨t108, A100, H⟩ := H
    try dsimp only at H
    have A10 := am A100
    clear A100
    by_cases c11 : a0_1 = 1
    ·
     rw [if_pos c11] at H
     have c11b0 : (a0_1 == 1) = true := beq_iff_eq.mpr c11
     have c11b1 : (a0_1 != 1) = false := bne_eq_false_iff_eq.mpr c11
     clear c11
     have HC12 := am H
     clear H
     have hcz13_0 : wc.cell? ⟨gb107, 0, none⟩ = some (.int .i64 a0_0) := (blk_cell BK107.out 0).trans rfl
     have hcz13_1 : wc.cell? ⟨gb107, 1, none⟩ = some (.int .i64 a0_1) := (blk_cell BK107.out 1).trans rfl
     have hcz13_2 : wc.cell? ⟨gb107, 2, none⟩ = some (.int .i64 a0_2) := (blk_cell BK107.out 2).trans rfl
     have hcz13_3 : wc.cell? ⟨gb107, 3, none⟩ = some (.string a0_3) := (blk_cell BK107.out 3).trans rfl
     have hcz13_4 : wc.cell? ⟨gb107, 4, none⟩ = some (.slice A0_4 l0_4.length c0_4) := (blk_cell BK107.out 4).trans rfl
     have hfz13_0 := blk_frozen BK107.out 0
     have hfz13_1 := blk_frozen BK107.out 1
     have hfz13_2 := blk_frozen BK107.out 2
     have hfz13_3 := blk_frozen BK107.out 3
     have hfz13_4 := blk_frozen BK107.out 4
     go_upto_region 6 with (first | (go_at_call 53; (with_reducible refine (codec_varintSize.calls kj2 (IntKind.u64.wrap (a0_0)) t108 _ A10.out).mono ?_); rintro e w' ⟨rfl, ⟨nd, rfl⟩⟩; (try first | exact ⟨rfl, _, World.drewN_drewN _ _ _⟩ | exact ⟨rfl, _, Eq.trans (World.drewN_drewN _ _ _) (congrArg (World.drewN _) (Nat.add_assoc _ _ _))⟩)))
     repeat (go_quiet (first | (go_at_call 53; (with_reducible refine (codec_varintSize.calls kj2 (IntKind.u64.wrap (a0_0)) t108 _ A10.out).mono ?_); rintro e w' ⟨rfl, ⟨nd, rfl⟩⟩; (try first | exact ⟨rfl, _, World.drewN_drewN _ _ _⟩ | exact ⟨rfl, _, Eq.trans (World.drewN_drewN _ _ _) (congrArg (World.drewN _) (Nat.add_assoc _ _ _))⟩))); go_upto_region 6 with (first | (go_at_call 53; (with_reducible refine (codec_varintSize.calls kj2 (IntKind.u64.wrap (a0_0)) t108 _ A10.out).mono ?_); rintro e w' ⟨rfl, ⟨nd, rfl⟩⟩; (try first | exact ⟨rfl, _, World.drewN_drewN _ _ _⟩ | exact ⟨rfl, _, Eq.trans (World.drewN_drewN _ _ _) (congrArg (World.drewN _) (Nat.add_assoc _ _ _))⟩))))
     (try simp only [Act.put, List.setIfInBounds_toArray, List.set_cons_zero, List.set_cons_succ])
     go_cut [39] (fun v39 wc => ∃ (kq : Nat) (x39_11 : Bool), v39 = .bool x39_11 ∧ Aside0 (codec_size.j1 kq (wrap64 (t108 + 1)) x39_11 a0_0 a0_1 a0_2 a0_3 l0_4 = some r) ∧ Aside0 (kq ≤ kj2) ∧ Aside0 (wc.heap[gb107]? = some (.cells #[.int .i64 a0_0, .int .i64 a0_1, .int .i64 a0_2, .string a0_3, (.slice A0_4 l0_4.length c0_4)] 43 (0, 0))) ∧ Aside0 (Below w.heap.size w wc))
     case first =>
      have H := HC12.out
      clear HC12
      by_cases c14 : a0_3.toList = ([] : List UInt8)
      ·
       rw [if_pos c14] at H
       have c14b0 : (a0_3.toList == ([] : List UInt8)) = true := beq_iff_eq.mpr c14
       have c14b1 : (a0_3.toList != ([] : List UInt8)) = false := bne_eq_false_iff_eq.mpr c14
       clear c14
       (first | rw [c14b0] | (simp only [i64_w, i32_w]; rw [c14b0]) | skip)
       have H' := am H
       clear H
       have hcz15_0 : wc.cell? ⟨gb107, 0, none⟩ = some (.int .i64 a0_0) := (blk_cell BK107.out 0).trans rfl
       have hcz15_1 : wc.cell? ⟨gb107, 1, none⟩ = some (.int .i64 a0_1) := (blk_cell BK107.out 1).trans rfl
       have hcz15_2 : wc.cell? ⟨gb107, 2, none⟩ = some (.int .i64 a0_2) := (blk_cell BK107.out 2).trans rfl
       have hcz15_3 : wc.cell? ⟨gb107, 3, none⟩ = some (.string a0_3) := (blk_cell BK107.out 3).trans rfl
       have hcz15_4 : wc.cell? ⟨gb107, 4, none⟩ = some (.slice A0_4 l0_4.length c0_4) := (blk_cell BK107.out 4).trans rfl
       have hfz15_0 := blk_frozen BK107.out 0
       have hfz15_1 := blk_frozen BK107.out 1
       have hfz15_2 := blk_frozen BK107.out 2
       have hfz15_3 := blk_frozen BK107.out 3
       have hfz15_4 := blk_frozen BK107.out 4
       go_wp2
       repeat (go_quiet (fail); try go_wp2)
       go_meet
       case rel => exact ⟨_, (decide ((l0_4.length : Int) > 0)), rfz, H', ⟨by have := HJ2.out; first | omega | exact Nat.le_refl _⟩, ⟨by (with_reducible repeat (first | refine blk_drewN ?_ _ | refine blk_drew ?_ | refine blk_alloc ?_ _)); exact BK107.out⟩, ⟨hz1 HB.out GE107.out⟩⟩
      ·
       rw [if_neg c14] at H
       have c14b0 : (a0_3.toList == ([] : List UInt8)) = false := beq_eq_false_iff_ne.mpr c14
       have c14b1 : (a0_3.toList != ([] : List UInt8)) = true := bne_iff_ne.mpr c14
       (first | rw [c14b0] | (simp only [i64_w, i32_w]; rw [c14b0]) | skip)
       have H' := am H
       clear H
       have hcz16_0 : wc.cell? ⟨gb107, 0, none⟩ = some (.int .i64 a0_0) := (blk_cell BK107.out 0).trans rfl
       have hcz16_1 : wc.cell? ⟨gb107, 1, none⟩ = some (.int .i64 a0_1) := (blk_cell BK107.out 1).trans rfl
       have hcz16_2 : wc.cell? ⟨gb107, 2, none⟩ = some (.int .i64 a0_2) := (blk_cell BK107.out 2).trans rfl
       have hcz16_3 : wc.cell? ⟨gb107, 3, none⟩ = some (.string a0_3) := (blk_cell BK107.out 3).trans rfl
       have hcz16_4 : wc.cell? ⟨gb107, 4, none⟩ = some (.slice A0_4 l0_4.length c0_4) := (blk_cell BK107.out 4).trans rfl
       have hfz16_0 := blk_frozen BK107.out 0
       have hfz16_1 := blk_frozen BK107.out 1
       have hfz16_2 := blk_frozen BK107.out 2
       have hfz16_3 := blk_frozen BK107.out 3
       have hfz16_4 := blk_frozen BK107.out 4
       go_wp2
       repeat (go_quiet (fail); try go_wp2)
       go_meet
       case rel => exact ⟨_, (true), rfz, H', ⟨by have := HJ2.out; first | omega | exact Nat.le_refl _⟩, ⟨by (with_reducible repeat (first | refine blk_drewN ?_ _ | refine blk_drew ?_ | refine blk_alloc ?_ _)); exact BK107.out⟩, ⟨hz1 HB.out GE107.out⟩⟩
     case rest =>
      clear HC12
      obtain ⟨kq, x39_11, rfl, HA, HJ11, BK107, HB⟩ := hcut
      cases kq with
      | zero => exact absurd HA.out (by simp [codec_size.j1])
      | succ kj11 =>
       have H := HA.out
       clear HA
       simp only [codec_size.j1] at H
       by_cases c17 : x39_11 = true
       ·
        subst c17
        have H1 := H
        rw [if_pos rfl] at H1
        clear H
        have H := H1
        clear H1
        obtain rfl := Option.some.inj H
        go_wp2
        repeat (go_quiet (fail); try go_wp2)
        go_ret
        exact ⟨ez, hz1 HB.out GE107.out⟩
       ·
        replace c17 := Bool.eq_false_iff.mpr c17
        subst c17
        have H1 := H
        rw [if_neg (show ¬ (false = true) by decide)] at H1
        clear H
        have H := H1
        clear H1
        replace H := Option.bind_eq_some_iff.mp H
        obtain ⟨t109, A180, H⟩ := H
        try dsimp only at H
        have A18 := am A180
        clear A180
        replace H := Option.bind_eq_some_iff.mp H
        obtain ⟨t110, A190, H⟩ := H
        try dsimp only at H
        have A19 := am A190
        clear A190
        obtain rfl := Option.some.inj H
        have hcz20_0 : wc.cell? ⟨gb107, 0, none⟩ = some (.int .i64 a0_0) := (blk_cell BK107.out 0).trans rfl
        have hcz20_1 : wc.cell? ⟨gb107, 1, none⟩ = some (.int .i64 a0_1) := (blk_cell BK107.out 1).trans rfl
        have hcz20_2 : wc.cell? ⟨gb107, 2, none⟩ = some (.int .i64 a0_2) := (blk_cell BK107.out 2).trans rfl
        have hcz20_3 : wc.cell? ⟨gb107, 3, none⟩ = some (.string a0_3) := (blk_cell BK107.out 3).trans rfl
        have hcz20_4 : wc.cell? ⟨gb107, 4, none⟩ = some (.slice A0_4 l0_4.length c0_4) := (blk_cell BK107.out 4).trans rfl
        have hfz20_0 := blk_frozen BK107.out 0
        have hfz20_1 := blk_frozen BK107.out 1
        have hfz20_2 := blk_frozen BK107.out 2
        have hfz20_3 := blk_frozen BK107.out 3
        have hfz20_4 := blk_frozen BK107.out 4
        go_wp2_with (first | (go_at_call 54; (with_reducible refine (codec_zigzag.calls a0_2 t109 _ A18.out).mono ?_); rintro e w' ⟨rfl, ⟨nd, rfl⟩⟩; (try first | exact ⟨rfl, _, World.drewN_drewN _ _ _⟩ | exact ⟨rfl, _, Eq.trans (World.drewN_drewN _ _ _) (congrArg (World.drewN _) (Nat.add_assoc _ _ _))⟩)) | (go_at_call 53; (with_reducible refine (codec_varintSize.calls kj11 t109 t110 _ A19.out).mono ?_); rintro e w' ⟨rfl, ⟨nd, rfl⟩⟩; (try first | exact ⟨rfl, _, World.drewN_drewN _ _ _⟩ | exact ⟨rfl, _, Eq.trans (World.drewN_drewN _ _ _) (congrArg (World.drewN _) (Nat.add_assoc _ _ _))⟩)))
        repeat (go_quiet (first | (go_at_call 54; (with_reducible refine (codec_zigzag.calls a0_2 t109 _ A18.out).mono ?_); rintro e w' ⟨rfl, ⟨nd, rfl⟩⟩; (try first | exact ⟨rfl, _, World.drewN_drewN _ _ _⟩ | exact ⟨rfl, _, Eq.trans (World.drewN_drewN _ _ _) (congrArg (World.drewN _) (Nat.add_assoc _ _ _))⟩)) | (go_at_call 53; (with_reducible refine (codec_varintSize.calls kj11 t109 t110 _ A19.out).mono ?_); rintro e w' ⟨rfl, ⟨nd, rfl⟩⟩; (try first | exact ⟨rfl, _, World.drewN_drewN _ _ _⟩ | exact ⟨rfl, _, Eq.trans (World.drewN_drewN _ _ _) (congrArg (World.drewN _) (Nat.add_assoc _ _ _))⟩))); try go_wp2_with (first | (go_at_call 54; (with_reducible refine (codec_zigzag.calls a0_2 t109 _ A18.out).mono ?_); rintro e w' ⟨rfl, ⟨nd, rfl⟩⟩; (try first | exact ⟨rfl, _, World.drewN_drewN _ _ _⟩ | exact ⟨rfl, _, Eq.trans (World.drewN_drewN _ _ _) (congrArg (World.drewN _) (Nat.add_assoc _ _ _))⟩)) | (go_at_call 53; (with_reducible refine (codec_varintSize.calls kj11 t109 t110 _ A19.out).mono ?_); rintro e w' ⟨rfl, ⟨nd, rfl⟩⟩; (try first | exact ⟨rfl, _, World.drewN_drewN _ _ _⟩ | exact ⟨rfl, _, Eq.trans (World.drewN_drewN _ _ _) (congrArg (World.drewN _) (Nat.add_assoc _ _ _))⟩))))
        go_ret
        exact ⟨ez, hz1 HB.out GE107.out⟩
    ·
     rw [if_neg c11] at H
     have c11b0 : (a0_1 == 1) = false := beq_eq_false_iff_ne.mpr c11
     have c11b1 : (a0_1 != 1) = true := bne_iff_ne.mpr c11
     by_cases c21 : a0_1 = 2
     ·
      rw [if_pos c21] at H
      have c21b0 : (a0_1 == 2) = true := beq_iff_eq.mpr c21
      have c21b1 : (a0_1 != 2) = false := bne_eq_false_iff_eq.mpr c21
      clear c21
      by_cases c22 : a0_2 = 0
      ·
       rw [if_pos c22] at H
       have c22b0 : (a0_2 == 0) = true := beq_iff_eq.mpr c22
       have c22b1 : (a0_2 != 0) = false := bne_eq_false_iff_eq.mpr c22
       clear c22
       by_cases c23 : (l0_4.length : Int) > 0
       ·
        rw [if_pos c23] at H
        have c23b0 : decide (0 < (l0_4.length : Int)) = true := decide_eq_true c23
        have c23b1 : decide (0 < l0_4.length) = true := decide_eq_true (by omega)
        clear c23
        obtain rfl := Option.some.inj H
        have hcz24_0 : wc.cell? ⟨gb107, 0, none⟩ = some (.int .i64 a0_0) := (blk_cell BK107.out 0).trans rfl
        have hcz24_1 : wc.cell? ⟨gb107, 1, none⟩ = some (.int .i64 a0_1) := (blk_cell BK107.out 1).trans rfl
        have hcz24_2 : wc.cell? ⟨gb107, 2, none⟩ = some (.int .i64 a0_2) := (blk_cell BK107.out 2).trans rfl
        have hcz24_3 : wc.cell? ⟨gb107, 3, none⟩ = some (.string a0_3) := (blk_cell BK107.out 3).trans rfl
        have hcz24_4 : wc.cell? ⟨gb107, 4, none⟩ = some (.slice A0_4 l0_4.length c0_4) := (blk_cell BK107.out 4).trans rfl
        have hfz24_0 := blk_frozen BK107.out 0
        have hfz24_1 := blk_frozen BK107.out 1
        have hfz24_2 := blk_frozen BK107.out 2
        have hfz24_3 := blk_frozen BK107.out 3
        have hfz24_4 := blk_frozen BK107.out 4
        go_wp2_with (first | (go_at_call 53; (with_reducible refine (codec_varintSize.calls kj2 (IntKind.u64.wrap (a0_0)) t108 _ A10.out).mono ?_); rintro e w' ⟨rfl, ⟨nd, rfl⟩⟩; (try first | exact ⟨rfl, _, World.drewN_drewN _ _ _⟩ | exact ⟨rfl, _, Eq.trans (World.drewN_drewN _ _ _) (congrArg (World.drewN _) (Nat.add_assoc _ _ _))⟩)))
        repeat (go_quiet (first | (go_at_call 53; (with_reducible refine (codec_varintSize.calls kj2 (IntKind.u64.wrap (a0_0)) t108 _ A10.out).mono ?_); rintro e w' ⟨rfl, ⟨nd, rfl⟩⟩; (try first | exact ⟨rfl, _, World.drewN_drewN _ _ _⟩ | exact ⟨rfl, _, Eq.trans (World.drewN_drewN _ _ _) (congrArg (World.drewN _) (Nat.add_assoc _ _ _))⟩))); try go_wp2_with (first | (go_at_call 53; (with_reducible refine (codec_varintSize.calls kj2 (IntKind.u64.wrap (a0_0)) t108 _ A10.out).mono ?_); rintro e w' ⟨rfl, ⟨nd, rfl⟩⟩; (try first | exact ⟨rfl, _, World.drewN_drewN _ _ _⟩ | exact ⟨rfl, _, Eq.trans (World.drewN_drewN _ _ _) (congrArg (World.drewN _) (Nat.add_assoc _ _ _))⟩))))
        go_ret
        exact ⟨ez, hz1 HB.out GE107.out⟩
       ·
        rw [if_neg c23] at H
        have c23b0 : decide (0 < (l0_4.length : Int)) = false := decide_eq_false c23
        have c23b1 : decide (0 < l0_4.length) = false := decide_eq_false (by omega)
        clear c23
        by_cases c25 : (a0_3.size : Int) > 2000
        ·
         rw [if_pos c25] at H
         have c25b0 : decide (2000 < (a0_3.size : Int)) = true := decide_eq_true c25
         have c25b1 : decide (2000 < a0_3.size) = true := decide_eq_true (by omega)
         clear c25
         obtain rfl := Option.some.inj H
         have hcz26_0 : wc.cell? ⟨gb107, 0, none⟩ = some (.int .i64 a0_0) := (blk_cell BK107.out 0).trans rfl
         have hcz26_1 : wc.cell? ⟨gb107, 1, none⟩ = some (.int .i64 a0_1) := (blk_cell BK107.out 1).trans rfl
         have hcz26_2 : wc.cell? ⟨gb107, 2, none⟩ = some (.int .i64 a0_2) := (blk_cell BK107.out 2).trans rfl
         have hcz26_3 : wc.cell? ⟨gb107, 3, none⟩ = some (.string a0_3) := (blk_cell BK107.out 3).trans rfl
         have hcz26_4 : wc.cell? ⟨gb107, 4, none⟩ = some (.slice A0_4 l0_4.length c0_4) := (blk_cell BK107.out 4).trans rfl
         have hfz26_0 := blk_frozen BK107.out 0
         have hfz26_1 := blk_frozen BK107.out 1
         have hfz26_2 := blk_frozen BK107.out 2
         have hfz26_3 := blk_frozen BK107.out 3
         have hfz26_4 := blk_frozen BK107.out 4
         go_wp2_with (first | (go_at_call 53; (with_reducible refine (codec_varintSize.calls kj2 (IntKind.u64.wrap (a0_0)) t108 _ A10.out).mono ?_); rintro e w' ⟨rfl, ⟨nd, rfl⟩⟩; (try first | exact ⟨rfl, _, World.drewN_drewN _ _ _⟩ | exact ⟨rfl, _, Eq.trans (World.drewN_drewN _ _ _) (congrArg (World.drewN _) (Nat.add_assoc _ _ _))⟩)))
         repeat (go_quiet (first | (go_at_call 53; (with_reducible refine (codec_varintSize.calls kj2 (IntKind.u64.wrap (a0_0)) t108 _ A10.out).mono ?_); rintro e w' ⟨rfl, ⟨nd, rfl⟩⟩; (try first | exact ⟨rfl, _, World.drewN_drewN _ _ _⟩ | exact ⟨rfl, _, Eq.trans (World.drewN_drewN _ _ _) (congrArg (World.drewN _) (Nat.add_assoc _ _ _))⟩))); try go_wp2_with (first | (go_at_call 53; (with_reducible refine (codec_varintSize.calls kj2 (IntKind.u64.wrap (a0_0)) t108 _ A10.out).mono ?_); rintro e w' ⟨rfl, ⟨nd, rfl⟩⟩; (try first | exact ⟨rfl, _, World.drewN_drewN _ _ _⟩ | exact ⟨rfl, _, Eq.trans (World.drewN_drewN _ _ _) (congrArg (World.drewN _) (Nat.add_assoc _ _ _))⟩))))
         go_ret
         exact ⟨ez, hz1 HB.out GE107.out⟩
        ·
         rw [if_neg c25] at H
         have c25b0 : decide (2000 < (a0_3.size : Int)) = false := decide_eq_false c25
         have c25b1 : decide (2000 < a0_3.size) = false := decide_eq_false (by omega)
         clear c25
         replace H := Option.bind_eq_some_iff.mp H
         obtain ⟨t111, A270, H⟩ := H
         try dsimp only at H
         have A27 := am A270
         clear A270
         obtain rfl := Option.some.inj H
         have hcz28_0 : wc.cell? ⟨gb107, 0, none⟩ = some (.int .i64 a0_0) := (blk_cell BK107.out 0).trans rfl
         have hcz28_1 : wc.cell? ⟨gb107, 1, none⟩ = some (.int .i64 a0_1) := (blk_cell BK107.out 1).trans rfl
         have hcz28_2 : wc.cell? ⟨gb107, 2, none⟩ = some (.int .i64 a0_2) := (blk_cell BK107.out 2).trans rfl
         have hcz28_3 : wc.cell? ⟨gb107, 3, none⟩ = some (.string a0_3) := (blk_cell BK107.out 3).trans rfl
         have hcz28_4 : wc.cell? ⟨gb107, 4, none⟩ = some (.slice A0_4 l0_4.length c0_4) := (blk_cell BK107.out 4).trans rfl
         have hfz28_0 := blk_frozen BK107.out 0
         have hfz28_1 := blk_frozen BK107.out 1
         have hfz28_2 := blk_frozen BK107.out 2
         have hfz28_3 := blk_frozen BK107.out 3
         have hfz28_4 := blk_frozen BK107.out 4
         go_wp2_with (first | (go_at_call 53; (with_reducible refine (codec_varintSize.calls kj2 (IntKind.u64.wrap (a0_0)) t108 _ A10.out).mono ?_); rintro e w' ⟨rfl, ⟨nd, rfl⟩⟩; (try first | exact ⟨rfl, _, World.drewN_drewN _ _ _⟩ | exact ⟨rfl, _, Eq.trans (World.drewN_drewN _ _ _) (congrArg (World.drewN _) (Nat.add_assoc _ _ _))⟩)) | (go_at_call 53; (with_reducible refine (codec_varintSize.calls kj2 (IntKind.u64.wrap ((a0_3.size : Int))) t111 _ A27.out).mono ?_); rintro e w' ⟨rfl, ⟨nd, rfl⟩⟩; (try first | exact ⟨rfl, _, World.drewN_drewN _ _ _⟩ | exact ⟨rfl, _, Eq.trans (World.drewN_drewN _ _ _) (congrArg (World.drewN _) (Nat.add_assoc _ _ _))⟩)))
         repeat (go_quiet (first | (go_at_call 53; (with_reducible refine (codec_varintSize.calls kj2 (IntKind.u64.wrap (a0_0)) t108 _ A10.out).mono ?_); rintro e w' ⟨rfl, ⟨nd, rfl⟩⟩; (try first | exact ⟨rfl, _, World.drewN_drewN _ _ _⟩ | exact ⟨rfl, _, Eq.trans (World.drewN_drewN _ _ _) (congrArg (World.drewN _) (Nat.add_assoc _ _ _))⟩)) | (go_at_call 53; (with_reducible refine (codec_varintSize.calls kj2 (IntKind.u64.wrap ((a0_3.size : Int))) t111 _ A27.out).mono ?_); rintro e w' ⟨rfl, ⟨nd, rfl⟩⟩; (try first | exact ⟨rfl, _, World.drewN_drewN _ _ _⟩ | exact ⟨rfl, _, Eq.trans (World.drewN_drewN _ _ _) (congrArg (World.drewN _) (Nat.add_assoc _ _ _))⟩))); try go_wp2_with (first | (go_at_call 53; (with_reducible refine (codec_varintSize.calls kj2 (IntKind.u64.wrap (a0_0)) t108 _ A10.out).mono ?_); rintro e w' ⟨rfl, ⟨nd, rfl⟩⟩; (try first | exact ⟨rfl, _, World.drewN_drewN _ _ _⟩ | exact ⟨rfl, _, Eq.trans (World.drewN_drewN _ _ _) (congrArg (World.drewN _) (Nat.add_assoc _ _ _))⟩)) | (go_at_call 53; (with_reducible refine (codec_varintSize.calls kj2 (IntKind.u64.wrap ((a0_3.size : Int))) t111 _ A27.out).mono ?_); rintro e w' ⟨rfl, ⟨nd, rfl⟩⟩; (try first | exact ⟨rfl, _, World.drewN_drewN _ _ _⟩ | exact ⟨rfl, _, Eq.trans (World.drewN_drewN _ _ _) (congrArg (World.drewN _) (Nat.add_assoc _ _ _))⟩))))
         go_ret
         exact ⟨ez, hz1 HB.out GE107.out⟩
      ·
       rw [if_neg c22] at H
       have c22b0 : (a0_2 == 0) = false := beq_eq_false_iff_ne.mpr c22
       have c22b1 : (a0_2 != 0) = true := bne_iff_ne.mpr c22
       obtain rfl := Option.some.inj H
       have hcz29_0 : wc.cell? ⟨gb107, 0, none⟩ = some (.int .i64 a0_0) := (blk_cell BK107.out 0).trans rfl
       have hcz29_1 : wc.cell? ⟨gb107, 1, none⟩ = some (.int .i64 a0_1) := (blk_cell BK107.out 1).trans rfl
       have hcz29_2 : wc.cell? ⟨gb107, 2, none⟩ = some (.int .i64 a0_2) := (blk_cell BK107.out 2).trans rfl
       have hcz29_3 : wc.cell? ⟨gb107, 3, none⟩ = some (.string a0_3) := (blk_cell BK107.out 3).trans rfl
       have hcz29_4 : wc.cell? ⟨gb107, 4, none⟩ = some (.slice A0_4 l0_4.length c0_4) := (blk_cell BK107.out 4).trans rfl
       have hfz29_0 := blk_frozen BK107.out 0
       have hfz29_1 := blk_frozen BK107.out 1
       have hfz29_2 := blk_frozen BK107.out 2
       have hfz29_3 := blk_frozen BK107.out 3
       have hfz29_4 := blk_frozen BK107.out 4
       go_wp2_with (first | (go_at_call 53; (with_reducible refine (codec_varintSize.calls kj2 (IntKind.u64.wrap (a0_0)) t108 _ A10.out).mono ?_); rintro e w' ⟨rfl, ⟨nd, rfl⟩⟩; (try first | exact ⟨rfl, _, World.drewN_drewN _ _ _⟩ | exact ⟨rfl, _, Eq.trans (World.drewN_drewN _ _ _) (congrArg (World.drewN _) (Nat.add_assoc _ _ _))⟩)))
       repeat (go_quiet (first | (go_at_call 53; (with_reducible refine (codec_varintSize.calls kj2 (IntKind.u64.wrap (a0_0)) t108 _ A10.out).mono ?_); rintro e w' ⟨rfl, ⟨nd, rfl⟩⟩; (try first | exact ⟨rfl, _, World.drewN_drewN _ _ _⟩ | exact ⟨rfl, _, Eq.trans (World.drewN_drewN _ _ _) (congrArg (World.drewN _) (Nat.add_assoc _ _ _))⟩))); try go_wp2_with (first | (go_at_call 53; (with_reducible refine (codec_varintSize.calls kj2 (IntKind.u64.wrap (a0_0)) t108 _ A10.out).mono ?_); rintro e w' ⟨rfl, ⟨nd, rfl⟩⟩; (try first | exact ⟨rfl, _, World.drewN_drewN _ _ _⟩ | exact ⟨rfl, _, Eq.trans (World.drewN_drewN _ _ _) (congrArg (World.drewN _) (Nat.add_assoc _ _ _))⟩))))
       go_ret
       exact ⟨ez, hz1 HB.out GE107.out⟩
     ·
      rw [if_neg c21] at H
      have c21b0 : (a0_1 == 2) = false := beq_eq_false_iff_ne.mpr c21
      have c21b1 : (a0_1 != 2) = true := bne_iff_ne.mpr c21
      by_cases c30 : a0_1 = 3
      ·
       rw [if_pos c30] at H
       have c30b0 : (a0_1 == 3) = true := beq_iff_eq.mpr c30
       have c30b1 : (a0_1 != 3) = false := bne_eq_false_iff_eq.mpr c30
       clear c30
       have HC31 := am H
       clear H
       have hcz32_0 : wc.cell? ⟨gb107, 0, none⟩ = some (.int .i64 a0_0) := (blk_cell BK107.out 0).trans rfl
       have hcz32_1 : wc.cell? ⟨gb107, 1, none⟩ = some (.int .i64 a0_1) := (blk_cell BK107.out 1).trans rfl
       have hcz32_2 : wc.cell? ⟨gb107, 2, none⟩ = some (.int .i64 a0_2) := (blk_cell BK107.out 2).trans rfl
       have hcz32_3 : wc.cell? ⟨gb107, 3, none⟩ = some (.string a0_3) := (blk_cell BK107.out 3).trans rfl
       have hcz32_4 : wc.cell? ⟨gb107, 4, none⟩ = some (.slice A0_4 l0_4.length c0_4) := (blk_cell BK107.out 4).trans rfl
       have hfz32_0 := blk_frozen BK107.out 0
       have hfz32_1 := blk_frozen BK107.out 1
       have hfz32_2 := blk_frozen BK107.out 2
       have hfz32_3 := blk_frozen BK107.out 3
       have hfz32_4 := blk_frozen BK107.out 4
       go_upto_region 14 with (first | (go_at_call 53; (with_reducible refine (codec_varintSize.calls kj2 (IntKind.u64.wrap (a0_0)) t108 _ A10.out).mono ?_); rintro e w' ⟨rfl, ⟨nd, rfl⟩⟩; (try first | exact ⟨rfl, _, World.drewN_drewN _ _ _⟩ | exact ⟨rfl, _, Eq.trans (World.drewN_drewN _ _ _) (congrArg (World.drewN _) (Nat.add_assoc _ _ _))⟩)))
       repeat (go_quiet (first | (go_at_call 53; (with_reducible refine (codec_varintSize.calls kj2 (IntKind.u64.wrap (a0_0)) t108 _ A10.out).mono ?_); rintro e w' ⟨rfl, ⟨nd, rfl⟩⟩; (try first | exact ⟨rfl, _, World.drewN_drewN _ _ _⟩ | exact ⟨rfl, _, Eq.trans (World.drewN_drewN _ _ _) (congrArg (World.drewN _) (Nat.add_assoc _ _ _))⟩))); go_upto_region 14 with (first | (go_at_call 53; (with_reducible refine (codec_varintSize.calls kj2 (IntKind.u64.wrap (a0_0)) t108 _ A10.out).mono ?_); rintro e w' ⟨rfl, ⟨nd, rfl⟩⟩; (try first | exact ⟨rfl, _, World.drewN_drewN _ _ _⟩ | exact ⟨rfl, _, Eq.trans (World.drewN_drewN _ _ _) (congrArg (World.drewN _) (Nat.add_assoc _ _ _))⟩))))
       (try simp only [Act.put, List.setIfInBounds_toArray, List.set_cons_zero, List.set_cons_succ])
       go_cut [89] (fun v89 wc => ∃ (kq : Nat) (x89_30 : Bool), v89 = .bool x89_30 ∧ Aside0 (codec_size.j2 kq a1 (wrap64 (t108 + 1)) x89_30 a0_0 a0_1 a0_2 a0_3 l0_4 = some r) ∧ Aside0 (kq ≤ kj2) ∧ Aside0 (wc.heap[gb107]? = some (.cells #[.int .i64 a0_0, .int .i64 a0_1, .int .i64 a0_2, .string a0_3, (.slice A0_4 l0_4.length c0_4)] 43 (0, 0))) ∧ Aside0 (Below w.heap.size w wc))
       case first =>
        have H := HC31.out
        clear HC31
        by_cases c33 : a0_2 = 0
        ·
         rw [if_pos c33] at H
         have c33b0 : (a0_2 == 0) = true := beq_iff_eq.mpr c33
         have c33b1 : (a0_2 != 0) = false := bne_eq_false_iff_eq.mpr c33
         clear c33
         (first | rw [c33b0] | (simp only [i64_w, i32_w]; rw [c33b0]) | skip)
         by_cases c34 : a0_3.toList = ([] : List UInt8)
         ·
          rw [if_pos c34] at H
          have c34b0 : (a0_3.toList == ([] : List UInt8)) = true := beq_iff_eq.mpr c34
          have c34b1 : (a0_3.toList != ([] : List UInt8)) = false := bne_eq_false_iff_eq.mpr c34
          clear c34
          have H' := am H
          clear H
          have hcz35_0 : wc.cell? ⟨gb107, 0, none⟩ = some (.int .i64 a0_0) := (blk_cell BK107.out 0).trans rfl
          have hcz35_1 : wc.cell? ⟨gb107, 1, none⟩ = some (.int .i64 a0_1) := (blk_cell BK107.out 1).trans rfl
          have hcz35_2 : wc.cell? ⟨gb107, 2, none⟩ = some (.int .i64 a0_2) := (blk_cell BK107.out 2).trans rfl
          have hcz35_3 : wc.cell? ⟨gb107, 3, none⟩ = some (.string a0_3) := (blk_cell BK107.out 3).trans rfl
          have hcz35_4 : wc.cell? ⟨gb107, 4, none⟩ = some (.slice A0_4 l0_4.length c0_4) := (blk_cell BK107.out 4).trans rfl
          have hfz35_0 := blk_frozen BK107.out 0
          have hfz35_1 := blk_frozen BK107.out 1
          have hfz35_2 := blk_frozen BK107.out 2
          have hfz35_3 := blk_frozen BK107.out 3
          have hfz35_4 := blk_frozen BK107.out 4
          go_wp2
          repeat (go_quiet (fail); try go_wp2)
          go_meet
          case rel => exact ⟨_, (decide ((l0_4.length : Int) > 1024)), rfz, H', ⟨by have := HJ2.out; first | omega | exact Nat.le_refl _⟩, ⟨by (with_reducible repeat (first | refine blk_drewN ?_ _ | refine blk_drew ?_ | refine blk_alloc ?_ _)); exact BK107.out⟩, ⟨hz1 HB.out GE107.out⟩⟩
         ·
          rw [if_neg c34] at H
          have c34b0 : (a0_3.toList == ([] : List UInt8)) = false := beq_eq_false_iff_ne.mpr c34
          have c34b1 : (a0_3.toList != ([] : List UInt8)) = true := bne_iff_ne.mpr c34
          have H' := am H
          clear H
          have hcz36_0 : wc.cell? ⟨gb107, 0, none⟩ = some (.int .i64 a0_0) := (blk_cell BK107.out 0).trans rfl
          have hcz36_1 : wc.cell? ⟨gb107, 1, none⟩ = some (.int .i64 a0_1) := (blk_cell BK107.out 1).trans rfl
          have hcz36_2 : wc.cell? ⟨gb107, 2, none⟩ = some (.int .i64 a0_2) := (blk_cell BK107.out 2).trans rfl
          have hcz36_3 : wc.cell? ⟨gb107, 3, none⟩ = some (.string a0_3) := (blk_cell BK107.out 3).trans rfl
          have hcz36_4 : wc.cell? ⟨gb107, 4, none⟩ = some (.slice A0_4 l0_4.length c0_4) := (blk_cell BK107.out 4).trans rfl
          have hfz36_0 := blk_frozen BK107.out 0
          have hfz36_1 := blk_frozen BK107.out 1
          have hfz36_2 := blk_frozen BK107.out 2
          have hfz36_3 := blk_frozen BK107.out 3
          have hfz36_4 := blk_frozen BK107.out 4
          go_wp2
          repeat (go_quiet (fail); try go_wp2)
          go_meet
          case rel => exact ⟨_, (true), rfz, H', ⟨by have := HJ2.out; first | omega | exact Nat.le_refl _⟩, ⟨by (with_reducible repeat (first | refine blk_drewN ?_ _ | refine blk_drew ?_ | refine blk_alloc ?_ _)); exact BK107.out⟩, ⟨hz1 HB.out GE107.out⟩⟩
        ·
         rw [if_neg c33] at H
         have c33b0 : (a0_2 == 0) = false := beq_eq_false_iff_ne.mpr c33
         have c33b1 : (a0_2 != 0) = true := bne_iff_ne.mpr c33
         (first | rw [c33b0] | (simp only [i64_w, i32_w]; rw [c33b0]) | skip)
         have H' := am H
         clear H
         have hcz37_0 : wc.cell? ⟨gb107, 0, none⟩ = some (.int .i64 a0_0) := (blk_cell BK107.out 0).trans rfl
         have hcz37_1 : wc.cell? ⟨gb107, 1, none⟩ = some (.int .i64 a0_1) := (blk_cell BK107.out 1).trans rfl
         have hcz37_2 : wc.cell? ⟨gb107, 2, none⟩ = some (.int .i64 a0_2) := (blk_cell BK107.out 2).trans rfl
         have hcz37_3 : wc.cell? ⟨gb107, 3, none⟩ = some (.string a0_3) := (blk_cell BK107.out 3).trans rfl
         have hcz37_4 : wc.cell? ⟨gb107, 4, none⟩ = some (.slice A0_4 l0_4.length c0_4) := (blk_cell BK107.out 4).trans rfl
         have hfz37_0 := blk_frozen BK107.out 0
         have hfz37_1 := blk_frozen BK107.out 1
         have hfz37_2 := blk_frozen BK107.out 2
         have hfz37_3 := blk_frozen BK107.out 3
         have hfz37_4 := blk_frozen BK107.out 4
         go_wp2
         repeat (go_quiet (fail); try go_wp2)
         go_meet
         case rel => exact ⟨_, (true), rfz, H', ⟨by have := HJ2.out; first | omega | exact Nat.le_refl _⟩, ⟨by (with_reducible repeat (first | refine blk_drewN ?_ _ | refine blk_drew ?_ | refine blk_alloc ?_ _)); exact BK107.out⟩, ⟨hz1 HB.out GE107.out⟩⟩
       case rest =>
        clear HC31
        obtain ⟨kq, x89_30, rfl, HA, HJ30, BK107, HB⟩ := hcut
        cases kq with
        | zero => exact absurd HA.out (by simp [codec_size.j2])
        | succ kj30 =>
         have H := HA.out
         clear HA
         simp only [codec_size.j2] at H
         by_cases c38 : x89_30 = true
         ·
          subst c38
          have H1 := H
          rw [if_pos rfl] at H1
          clear H
          have H := H1
          clear H1
          obtain rfl := Option.some.inj H
          go_wp2
          repeat (go_quiet (fail); try go_wp2)
          go_ret
          exact ⟨ez, hz1 HB.out GE107.out⟩
         ·
          replace c38 := Bool.eq_false_iff.mpr c38
          subst c38
          have H1 := H
          rw [if_neg (show ¬ (false = true) by decide)] at H1
          clear H
          have H := H1
          clear H1
          replace H := Option.bind_eq_some_iff.mp H
          obtain ⟨t112, A390, H⟩ := H
          try dsimp only at H
          have A39 := am A390
          clear A390
          have H' := am H
          clear H
          have hcz40_0 : wc.cell? ⟨gb107, 0, none⟩ = some (.int .i64 a0_0) := (blk_cell BK107.out 0).trans rfl
          have hcz40_1 : wc.cell? ⟨gb107, 1, none⟩ = some (.int .i64 a0_1) := (blk_cell BK107.out 1).trans rfl
          have hcz40_2 : wc.cell? ⟨gb107, 2, none⟩ = some (.int .i64 a0_2) := (blk_cell BK107.out 2).trans rfl
          have hcz40_3 : wc.cell? ⟨gb107, 3, none⟩ = some (.string a0_3) := (blk_cell BK107.out 3).trans rfl
          have hcz40_4 : wc.cell? ⟨gb107, 4, none⟩ = some (.slice A0_4 l0_4.length c0_4) := (blk_cell BK107.out 4).trans rfl
          have hfz40_0 := blk_frozen BK107.out 0
          have hfz40_1 := blk_frozen BK107.out 1
          have hfz40_2 := blk_frozen BK107.out 2
          have hfz40_3 := blk_frozen BK107.out 3
          have hfz40_4 := blk_frozen BK107.out 4
          go_wp2_with (first | (go_at_call 53; (with_reducible refine (codec_varintSize.calls kj30 (IntKind.u64.wrap ((l0_4.length : Int))) t112 _ A39.out).mono ?_); rintro e w' ⟨rfl, ⟨nd, rfl⟩⟩; (try first | exact ⟨rfl, _, World.drewN_drewN _ _ _⟩ | exact ⟨rfl, _, Eq.trans (World.drewN_drewN _ _ _) (congrArg (World.drewN _) (Nat.add_assoc _ _ _))⟩)))
          repeat (go_quiet (first | (go_at_call 53; (with_reducible refine (codec_varintSize.calls kj30 (IntKind.u64.wrap ((l0_4.length : Int))) t112 _ A39.out).mono ?_); rintro e w' ⟨rfl, ⟨nd, rfl⟩⟩; (try first | exact ⟨rfl, _, World.drewN_drewN _ _ _⟩ | exact ⟨rfl, _, Eq.trans (World.drewN_drewN _ _ _) (congrArg (World.drewN _) (Nat.add_assoc _ _ _))⟩))); try go_wp2_with (first | (go_at_call 53; (with_reducible refine (codec_varintSize.calls kj30 (IntKind.u64.wrap ((l0_4.length : Int))) t112 _ A39.out).mono ?_); rintro e w' ⟨rfl, ⟨nd, rfl⟩⟩; (try first | exact ⟨rfl, _, World.drewN_drewN _ _ _⟩ | exact ⟨rfl, _, Eq.trans (World.drewN_drewN _ _ _) (congrArg (World.drewN _) (Nat.add_assoc _ _ _))⟩))))
          go_loopg [6, 100] kj30 (fun kq v6 v100 w' => ∃ (x6_3 : Int) (x100_3 : Int), v6 = .int .i64 x6_3 ∧ v100 = .int .i64 x100_3 ∧ Aside0 (codec_size.l0 kq a1 x6_3 l0_4 (l0_4.length : Int) x100_3 = some r) ∧ Aside0 (kq ≤ kj30) ∧ Aside0 (w'.heap[gb107]? = some (.cells #[.int .i64 a0_0, .int .i64 a0_1, .int .i64 a0_2, .string a0_3, (.slice A0_4 l0_4.length c0_4)] 43 (0, 0))) ∧ Aside0 (Below w.heap.size w w'))
          case atStart => exact ⟨(wrap64 ((wrap64 (t108 + 1)) + t112)), (0), rfz, rfz, H', ⟨Nat.le_refl _⟩, ⟨by (with_reducible repeat (first | refine blk_drewN ?_ _ | refine blk_drew ?_ | refine blk_alloc ?_ _)); exact BK107.out⟩, ⟨hz1 HB.out GE107.out⟩⟩
          case round =>
           clear H'
           obtain ⟨x6_3, x100_3, rfl, rfl, HA, HK3, BK107, HB⟩ := hrel
           cases gk with
           | zero => exact absurd HA.out (by simp [codec_size.l0])
           | succ k3 =>
            have H := HA.out
            clear HA
            simp only [codec_size.l0] at H
            by_cases c41 : x100_3 < (l0_4.length : Int)
            ·
             rw [if_pos c41] at H
             have c41b0 : decide (x100_3 < (l0_4.length : Int)) = true := decide_eq_true c41
             clear c41
             replace H := it_ H
             obtain ⟨c42, H⟩ := H
             have c42b0 : decide (0 ≤ x100_3) = true := decide_eq_true c42
             clear c42
             replace H := it_ H
             obtain ⟨c43, H⟩ := H
             have c43b0 : decide (x100_3 < (l0_4.length : Int)) = true := decide_eq_true c43
             clear c43
             replace H := Option.bind_eq_some_iff.mp H
             obtain ⟨t115, A440, H⟩ := H
             try dsimp only at H
             have A44 := am A440
             clear A440
             by_cases c45 : t115 < 0
             ·
              rw [if_pos c45] at H
              have c45b0 : decide (t115 < 0) = true := decide_eq_true c45
              clear c45
              obtain rfl := Option.some.inj H
              have p113 : 0 ≤ (x100_3 : Int) := of_decide_eq_true az
              have q113 : x100_3 < (l0_4.length : Int) := of_decide_eq_true az
              obtain ⟨ad113, A113_4, c113_4, e113, hx113_0, hx113_1, hx113_2, hx113_3, hx113_4, hl113_4, hi113_4⟩ := at_T43 HR0_4.out x100_3 p113 q113
              cases e113
              replace hx113_0 := (HB.out.cell (World.block_lt_of_cell? w _ hx113_0)).trans hx113_0
              replace hx113_1 := (HB.out.cell (World.block_lt_of_cell? w _ hx113_1)).trans hx113_1
              replace hx113_2 := (HB.out.cell (World.block_lt_of_cell? w _ hx113_2)).trans hx113_2
              replace hx113_3 := (HB.out.cell (World.block_lt_of_cell? w _ hx113_3)).trans hx113_3
              replace hx113_4 := (HB.out.cell (World.block_lt_of_cell? w _ hx113_4)).trans hx113_4
              have HR113_4 := am hi113_4
              have HC113_4 := am hl113_4
              clear hi113_4 hl113_4
              replace p113 := eq_true p113
              replace q113 := eq_true q113
              go_wp2_with (first | ((with_reducible refine gate_dst (N := 8) rfl ?_); (try (refine gate_guard (by rfl) ?_; dsimp only)); refine box_event rfl (N := 8) rfl (cs := #[.int .i64 0, .int .i64 0, .int .i64 0, .string (⟨#[]⟩ : ByteArray), .slice none 0 0]) (t := 43) gz ?_; intro gb114 hg w46 hbox hb; have BK114 := am (hbox); have GW114 := am ((bs hg (hz1 HB.out GE107.out) : w.heap.size ≤ gb114)); have GE114 := am ((bs hg (hz1 HB.out GE107.out) : w.heap.size ≤ gb114)); replace HB := am (below_step (hz1 HB.out GE107.out) hb); have NB107_114 := am ((nl hg (bz BK107.out) : gb107 ≠ gb114)); have NB114_107 := am ((ng hg (bz BK107.out) : gb114 ≠ gb107)); replace BK107 := am (blk_below (bz BK107.out) hb); clear hb hbox hg; have hnb47 := NB114_107.out; have hnc47 := NB107_114.out; obtain ⟨hcz48_0, hcz48_1, hcz48_2, hcz48_3, hcz48_4⟩ := cs5 BK114.out; obtain ⟨hfz48_0, hfz48_1, hfz48_2, hfz48_3, hfz48_4⟩ := fs5 BK114.out) | (go_at_call 42; (with_reducible refine (ih k3 (by have := HJ2.out; have := HJ30.out; have := HK3.out; omega) ((rd_T43 l0_4 x100_3).f0) ((rd_T43 l0_4 x100_3).f1) ((rd_T43 l0_4 x100_3).f2) ((rd_T43 l0_4 x100_3).f3) _ _ ((rd_T43 l0_4 x100_3).f4) (wrap64 (a1 + 1)) t115 _ ?side1 ?side2 A44.out).mono ?_); (case side1 => exact Kd.C_below HR113_4.out (hz2 HB.out GE107.out GE114.out)); (case side2 => exact HC113_4.out); rintro e w49 ⟨rfl, hb⟩; replace BK107 := am (blk_below (bf1 NB107_114.out BK107.out) hb); replace BK114 := am (blk_below (g := gb114) (o := .cells #[.int .i64 ((rd_T43 l0_4 x100_3).f0), .int .i64 ((rd_T43 l0_4 x100_3).f1), .int .i64 ((rd_T43 l0_4 x100_3).f2), .string ((rd_T43 l0_4 x100_3).f3), .slice A113_4 ((rd_T43 l0_4 x100_3).f4).length c113_4] 43 (0, 0)) (bp BK114.out) hb); replace HB := am (below_step (hz2 HB.out GE107.out GE114.out) hb)))
              repeat (go_quiet (first | ((with_reducible refine gate_dst (N := 8) rfl ?_); (try (refine gate_guard (by rfl) ?_; dsimp only)); refine box_event rfl (N := 8) rfl (cs := #[.int .i64 0, .int .i64 0, .int .i64 0, .string (⟨#[]⟩ : ByteArray), .slice none 0 0]) (t := 43) gz ?_; intro gb114 hg w46 hbox hb; have BK114 := am (hbox); have GW114 := am ((bs hg (hz1 HB.out GE107.out) : w.heap.size ≤ gb114)); have GE114 := am ((bs hg (hz1 HB.out GE107.out) : w.heap.size ≤ gb114)); replace HB := am (below_step (hz1 HB.out GE107.out) hb); have NB107_114 := am ((nl hg (bz BK107.out) : gb107 ≠ gb114)); have NB114_107 := am ((ng hg (bz BK107.out) : gb114 ≠ gb107)); replace BK107 := am (blk_below (bz BK107.out) hb); clear hb hbox hg; have hnb47 := NB114_107.out; have hnc47 := NB107_114.out; obtain ⟨hcz48_0, hcz48_1, hcz48_2, hcz48_3, hcz48_4⟩ := cs5 BK114.out; obtain ⟨hfz48_0, hfz48_1, hfz48_2, hfz48_3, hfz48_4⟩ := fs5 BK114.out) | (go_at_call 42; (with_reducible refine (ih k3 (by have := HJ2.out; have := HJ30.out; have := HK3.out; omega) ((rd_T43 l0_4 x100_3).f0) ((rd_T43 l0_4 x100_3).f1) ((rd_T43 l0_4 x100_3).f2) ((rd_T43 l0_4 x100_3).f3) _ _ ((rd_T43 l0_4 x100_3).f4) (wrap64 (a1 + 1)) t115 _ ?side1 ?side2 A44.out).mono ?_); (case side1 => exact Kd.C_below HR113_4.out (hz2 HB.out GE107.out GE114.out)); (case side2 => exact HC113_4.out); rintro e w49 ⟨rfl, hb⟩; replace BK107 := am (blk_below (bf1 NB107_114.out BK107.out) hb); replace BK114 := am (blk_below (g := gb114) (o := .cells #[.int .i64 ((rd_T43 l0_4 x100_3).f0), .int .i64 ((rd_T43 l0_4 x100_3).f1), .int .i64 ((rd_T43 l0_4 x100_3).f2), .string ((rd_T43 l0_4 x100_3).f3), .slice A113_4 ((rd_T43 l0_4 x100_3).f4).length c113_4] 43 (0, 0)) (bp BK114.out) hb); replace HB := am (below_step (hz2 HB.out GE107.out GE114.out) hb))); try go_wp2_with (first | ((with_reducible refine gate_dst (N := 8) rfl ?_); (try (refine gate_guard (by rfl) ?_; dsimp only)); refine box_event rfl (N := 8) rfl (cs := #[.int .i64 0, .int .i64 0, .int .i64 0, .string (⟨#[]⟩ : ByteArray), .slice none 0 0]) (t := 43) gz ?_; intro gb114 hg w46 hbox hb; have BK114 := am (hbox); have GW114 := am ((bs hg (hz1 HB.out GE107.out) : w.heap.size ≤ gb114)); have GE114 := am ((bs hg (hz1 HB.out GE107.out) : w.heap.size ≤ gb114)); replace HB := am (below_step (hz1 HB.out GE107.out) hb); have NB107_114 := am ((nl hg (bz BK107.out) : gb107 ≠ gb114)); have NB114_107 := am ((ng hg (bz BK107.out) : gb114 ≠ gb107)); replace BK107 := am (blk_below (bz BK107.out) hb); clear hb hbox hg; have hnb47 := NB114_107.out; have hnc47 := NB107_114.out; obtain ⟨hcz48_0, hcz48_1, hcz48_2, hcz48_3, hcz48_4⟩ := cs5 BK114.out; obtain ⟨hfz48_0, hfz48_1, hfz48_2, hfz48_3, hfz48_4⟩ := fs5 BK114.out) | (go_at_call 42; (with_reducible refine (ih k3 (by have := HJ2.out; have := HJ30.out; have := HK3.out; omega) ((rd_T43 l0_4 x100_3).f0) ((rd_T43 l0_4 x100_3).f1) ((rd_T43 l0_4 x100_3).f2) ((rd_T43 l0_4 x100_3).f3) _ _ ((rd_T43 l0_4 x100_3).f4) (wrap64 (a1 + 1)) t115 _ ?side1 ?side2 A44.out).mono ?_); (case side1 => exact Kd.C_below HR113_4.out (hz2 HB.out GE107.out GE114.out)); (case side2 => exact HC113_4.out); rintro e w49 ⟨rfl, hb⟩; replace BK107 := am (blk_below (bf1 NB107_114.out BK107.out) hb); replace BK114 := am (blk_below (g := gb114) (o := .cells #[.int .i64 ((rd_T43 l0_4 x100_3).f0), .int .i64 ((rd_T43 l0_4 x100_3).f1), .int .i64 ((rd_T43 l0_4 x100_3).f2), .string ((rd_T43 l0_4 x100_3).f3), .slice A113_4 ((rd_T43 l0_4 x100_3).f4).length c113_4] 43 (0, 0)) (bp BK114.out) hb); replace HB := am (below_step (hz2 HB.out GE107.out GE114.out) hb))))
              go_ret
              exact ⟨ez, hz2 HB.out GE107.out GE114.out⟩
             ·
              rw [if_neg c45] at H
              have c45b0 : decide (t115 < 0) = false := decide_eq_false c45
              clear c45
              by_cases c50 : (wrap64 (x6_3 + t115)) > 1048576
              ·
               rw [if_pos c50] at H
               have c50b0 : decide (1048576 < (wrap64 (x6_3 + t115))) = true := decide_eq_true c50
               clear c50
               obtain rfl := Option.some.inj H
               have p113 : 0 ≤ (x100_3 : Int) := of_decide_eq_true az
               have q113 : x100_3 < (l0_4.length : Int) := of_decide_eq_true az
               obtain ⟨ad113, A113_4, c113_4, e113, hx113_0, hx113_1, hx113_2, hx113_3, hx113_4, hl113_4, hi113_4⟩ := at_T43 HR0_4.out x100_3 p113 q113
               cases e113
               replace hx113_0 := (HB.out.cell (World.block_lt_of_cell? w _ hx113_0)).trans hx113_0
               replace hx113_1 := (HB.out.cell (World.block_lt_of_cell? w _ hx113_1)).trans hx113_1
               replace hx113_2 := (HB.out.cell (World.block_lt_of_cell? w _ hx113_2)).trans hx113_2
               replace hx113_3 := (HB.out.cell (World.block_lt_of_cell? w _ hx113_3)).trans hx113_3
               replace hx113_4 := (HB.out.cell (World.block_lt_of_cell? w _ hx113_4)).trans hx113_4
               have HR113_4 := am hi113_4
               have HC113_4 := am hl113_4
               clear hi113_4 hl113_4
               replace p113 := eq_true p113
               replace q113 := eq_true q113
               go_wp2_with (first | ((with_reducible refine gate_dst (N := 8) rfl ?_); (try (refine gate_guard (by rfl) ?_; dsimp only)); refine box_event rfl (N := 8) rfl (cs := #[.int .i64 0, .int .i64 0, .int .i64 0, .string (⟨#[]⟩ : ByteArray), .slice none 0 0]) (t := 43) gz ?_; intro gb114 hg w51 hbox hb; have BK114 := am (hbox); have GW114 := am ((bs hg (hz1 HB.out GE107.out) : w.heap.size ≤ gb114)); have GE114 := am ((bs hg (hz1 HB.out GE107.out) : w.heap.size ≤ gb114)); replace HB := am (below_step (hz1 HB.out GE107.out) hb); have NB107_114 := am ((nl hg (bz BK107.out) : gb107 ≠ gb114)); have NB114_107 := am ((ng hg (bz BK107.out) : gb114 ≠ gb107)); replace BK107 := am (blk_below (bz BK107.out) hb); clear hb hbox hg; have hnb52 := NB114_107.out; have hnc52 := NB107_114.out; obtain ⟨hcz53_0, hcz53_1, hcz53_2, hcz53_3, hcz53_4⟩ := cs5 BK114.out; obtain ⟨hfz53_0, hfz53_1, hfz53_2, hfz53_3, hfz53_4⟩ := fs5 BK114.out) | (go_at_call 42; (with_reducible refine (ih k3 (by have := HJ2.out; have := HJ30.out; have := HK3.out; omega) ((rd_T43 l0_4 x100_3).f0) ((rd_T43 l0_4 x100_3).f1) ((rd_T43 l0_4 x100_3).f2) ((rd_T43 l0_4 x100_3).f3) _ _ ((rd_T43 l0_4 x100_3).f4) (wrap64 (a1 + 1)) t115 _ ?side1 ?side2 A44.out).mono ?_); (case side1 => exact Kd.C_below HR113_4.out (hz2 HB.out GE107.out GE114.out)); (case side2 => exact HC113_4.out); rintro e w54 ⟨rfl, hb⟩; replace BK107 := am (blk_below (bf1 NB107_114.out BK107.out) hb); replace BK114 := am (blk_below (g := gb114) (o := .cells #[.int .i64 ((rd_T43 l0_4 x100_3).f0), .int .i64 ((rd_T43 l0_4 x100_3).f1), .int .i64 ((rd_T43 l0_4 x100_3).f2), .string ((rd_T43 l0_4 x100_3).f3), .slice A113_4 ((rd_T43 l0_4 x100_3).f4).length c113_4] 43 (0, 0)) (bp BK114.out) hb); replace HB := am (below_step (hz2 HB.out GE107.out GE114.out) hb)))
               repeat (go_quiet (first | ((with_reducible refine gate_dst (N := 8) rfl ?_); (try (refine gate_guard (by rfl) ?_; dsimp only)); refine box_event rfl (N := 8) rfl (cs := #[.int .i64 0, .int .i64 0, .int .i64 0, .string (⟨#[]⟩ : ByteArray), .slice none 0 0]) (t := 43) gz ?_; intro gb114 hg w51 hbox hb; have BK114 := am (hbox); have GW114 := am ((bs hg (hz1 HB.out GE107.out) : w.heap.size ≤ gb114)); have GE114 := am ((bs hg (hz1 HB.out GE107.out) : w.heap.size ≤ gb114)); replace HB := am (below_step (hz1 HB.out GE107.out) hb); have NB107_114 := am ((nl hg (bz BK107.out) : gb107 ≠ gb114)); have NB114_107 := am ((ng hg (bz BK107.out) : gb114 ≠ gb107)); replace BK107 := am (blk_below (bz BK107.out) hb); clear hb hbox hg; have hnb52 := NB114_107.out; have hnc52 := NB107_114.out; obtain ⟨hcz53_0, hcz53_1, hcz53_2, hcz53_3, hcz53_4⟩ := cs5 BK114.out; obtain ⟨hfz53_0, hfz53_1, hfz53_2, hfz53_3, hfz53_4⟩ := fs5 BK114.out) | (go_at_call 42; (with_reducible refine (ih k3 (by have := HJ2.out; have := HJ30.out; have := HK3.out; omega) ((rd_T43 l0_4 x100_3).f0) ((rd_T43 l0_4 x100_3).f1) ((rd_T43 l0_4 x100_3).f2) ((rd_T43 l0_4 x100_3).f3) _ _ ((rd_T43 l0_4 x100_3).f4) (wrap64 (a1 + 1)) t115 _ ?side1 ?side2 A44.out).mono ?_); (case side1 => exact Kd.C_below HR113_4.out (hz2 HB.out GE107.out GE114.out)); (case side2 => exact HC113_4.out); rintro e w54 ⟨rfl, hb⟩; replace BK107 := am (blk_below (bf1 NB107_114.out BK107.out) hb); replace BK114 := am (blk_below (g := gb114) (o := .cells #[.int .i64 ((rd_T43 l0_4 x100_3).f0), .int .i64 ((rd_T43 l0_4 x100_3).f1), .int .i64 ((rd_T43 l0_4 x100_3).f2), .string ((rd_T43 l0_4 x100_3).f3), .slice A113_4 ((rd_T43 l0_4 x100_3).f4).length c113_4] 43 (0, 0)) (bp BK114.out) hb); replace HB := am (below_step (hz2 HB.out GE107.out GE114.out) hb))); try go_wp2_with (first | ((with_reducible refine gate_dst (N := 8) rfl ?_); (try (refine gate_guard (by rfl) ?_; dsimp only)); refine box_event rfl (N := 8) rfl (cs := #[.int .i64 0, .int .i64 0, .int .i64 0, .string (⟨#[]⟩ : ByteArray), .slice none 0 0]) (t := 43) gz ?_; intro gb114 hg w51 hbox hb; have BK114 := am (hbox); have GW114 := am ((bs hg (hz1 HB.out GE107.out) : w.heap.size ≤ gb114)); have GE114 := am ((bs hg (hz1 HB.out GE107.out) : w.heap.size ≤ gb114)); replace HB := am (below_step (hz1 HB.out GE107.out) hb); have NB107_114 := am ((nl hg (bz BK107.out) : gb107 ≠ gb114)); have NB114_107 := am ((ng hg (bz BK107.out) : gb114 ≠ gb107)); replace BK107 := am (blk_below (bz BK107.out) hb); clear hb hbox hg; have hnb52 := NB114_107.out; have hnc52 := NB107_114.out; obtain ⟨hcz53_0, hcz53_1, hcz53_2, hcz53_3, hcz53_4⟩ := cs5 BK114.out; obtain ⟨hfz53_0, hfz53_1, hfz53_2, hfz53_3, hfz53_4⟩ := fs5 BK114.out) | (go_at_call 42; (with_reducible refine (ih k3 (by have := HJ2.out; have := HJ30.out; have := HK3.out; omega) ((rd_T43 l0_4 x100_3).f0) ((rd_T43 l0_4 x100_3).f1) ((rd_T43 l0_4 x100_3).f2) ((rd_T43 l0_4 x100_3).f3) _ _ ((rd_T43 l0_4 x100_3).f4) (wrap64 (a1 + 1)) t115 _ ?side1 ?side2 A44.out).mono ?_); (case side1 => exact Kd.C_below HR113_4.out (hz2 HB.out GE107.out GE114.out)); (case side2 => exact HC113_4.out); rintro e w54 ⟨rfl, hb⟩; replace BK107 := am (blk_below (bf1 NB107_114.out BK107.out) hb); replace BK114 := am (blk_below (g := gb114) (o := .cells #[.int .i64 ((rd_T43 l0_4 x100_3).f0), .int .i64 ((rd_T43 l0_4 x100_3).f1), .int .i64 ((rd_T43 l0_4 x100_3).f2), .string ((rd_T43 l0_4 x100_3).f3), .slice A113_4 ((rd_T43 l0_4 x100_3).f4).length c113_4] 43 (0, 0)) (bp BK114.out) hb); replace HB := am (below_step (hz2 HB.out GE107.out GE114.out) hb))))
               go_ret
               exact ⟨ez, hz2 HB.out GE107.out GE114.out⟩
              ·
               rw [if_neg c50] at H
               have c50b0 : decide (1048576 < (wrap64 (x6_3 + t115))) = false := decide_eq_false c50
               clear c50
               have H' := am H
               clear H
               have p113 : 0 ≤ (x100_3 : Int) := of_decide_eq_true az
               have q113 : x100_3 < (l0_4.length : Int) := of_decide_eq_true az
               obtain ⟨ad113, A113_4, c113_4, e113, hx113_0, hx113_1, hx113_2, hx113_3, hx113_4, hl113_4, hi113_4⟩ := at_T43 HR0_4.out x100_3 p113 q113
               cases e113
               replace hx113_0 := (HB.out.cell (World.block_lt_of_cell? w _ hx113_0)).trans hx113_0
               replace hx113_1 := (HB.out.cell (World.block_lt_of_cell? w _ hx113_1)).trans hx113_1
               replace hx113_2 := (HB.out.cell (World.block_lt_of_cell? w _ hx113_2)).trans hx113_2
               replace hx113_3 := (HB.out.cell (World.block_lt_of_cell? w _ hx113_3)).trans hx113_3
               replace hx113_4 := (HB.out.cell (World.block_lt_of_cell? w _ hx113_4)).trans hx113_4
               have HR113_4 := am hi113_4
               have HC113_4 := am hl113_4
               clear hi113_4 hl113_4
               replace p113 := eq_true p113
               replace q113 := eq_true q113
               go_wp2_with (first | ((with_reducible refine gate_dst (N := 8) rfl ?_); (try (refine gate_guard (by rfl) ?_; dsimp only)); refine box_event rfl (N := 8) rfl (cs := #[.int .i64 0, .int .i64 0, .int .i64 0, .string (⟨#[]⟩ : ByteArray), .slice none 0 0]) (t := 43) gz ?_; intro gb114 hg w55 hbox hb; have BK114 := am (hbox); have GW114 := am ((bs hg (hz1 HB.out GE107.out) : w.heap.size ≤ gb114)); have GE114 := am ((bs hg (hz1 HB.out GE107.out) : w.heap.size ≤ gb114)); replace HB := am (below_step (hz1 HB.out GE107.out) hb); have NB107_114 := am ((nl hg (bz BK107.out) : gb107 ≠ gb114)); have NB114_107 := am ((ng hg (bz BK107.out) : gb114 ≠ gb107)); replace BK107 := am (blk_below (bz BK107.out) hb); clear hb hbox hg; have hnb56 := NB114_107.out; have hnc56 := NB107_114.out; obtain ⟨hcz57_0, hcz57_1, hcz57_2, hcz57_3, hcz57_4⟩ := cs5 BK114.out; obtain ⟨hfz57_0, hfz57_1, hfz57_2, hfz57_3, hfz57_4⟩ := fs5 BK114.out) | (go_at_call 42; (with_reducible refine (ih k3 (by have := HJ2.out; have := HJ30.out; have := HK3.out; omega) ((rd_T43 l0_4 x100_3).f0) ((rd_T43 l0_4 x100_3).f1) ((rd_T43 l0_4 x100_3).f2) ((rd_T43 l0_4 x100_3).f3) _ _ ((rd_T43 l0_4 x100_3).f4) (wrap64 (a1 + 1)) t115 _ ?side1 ?side2 A44.out).mono ?_); (case side1 => exact Kd.C_below HR113_4.out (hz2 HB.out GE107.out GE114.out)); (case side2 => exact HC113_4.out); rintro e w58 ⟨rfl, hb⟩; replace BK107 := am (blk_below (bf1 NB107_114.out BK107.out) hb); replace BK114 := am (blk_below (g := gb114) (o := .cells #[.int .i64 ((rd_T43 l0_4 x100_3).f0), .int .i64 ((rd_T43 l0_4 x100_3).f1), .int .i64 ((rd_T43 l0_4 x100_3).f2), .string ((rd_T43 l0_4 x100_3).f3), .slice A113_4 ((rd_T43 l0_4 x100_3).f4).length c113_4] 43 (0, 0)) (bp BK114.out) hb); replace HB := am (below_step (hz2 HB.out GE107.out GE114.out) hb)))
               repeat (go_quiet (first | ((with_reducible refine gate_dst (N := 8) rfl ?_); (try (refine gate_guard (by rfl) ?_; dsimp only)); refine box_event rfl (N := 8) rfl (cs := #[.int .i64 0, .int .i64 0, .int .i64 0, .string (⟨#[]⟩ : ByteArray), .slice none 0 0]) (t := 43) gz ?_; intro gb114 hg w55 hbox hb; have BK114 := am (hbox); have GW114 := am ((bs hg (hz1 HB.out GE107.out) : w.heap.size ≤ gb114)); have GE114 := am ((bs hg (hz1 HB.out GE107.out) : w.heap.size ≤ gb114)); replace HB := am (below_step (hz1 HB.out GE107.out) hb); have NB107_114 := am ((nl hg (bz BK107.out) : gb107 ≠ gb114)); have NB114_107 := am ((ng hg (bz BK107.out) : gb114 ≠ gb107)); replace BK107 := am (blk_below (bz BK107.out) hb); clear hb hbox hg; have hnb56 := NB114_107.out; have hnc56 := NB107_114.out; obtain ⟨hcz57_0, hcz57_1, hcz57_2, hcz57_3, hcz57_4⟩ := cs5 BK114.out; obtain ⟨hfz57_0, hfz57_1, hfz57_2, hfz57_3, hfz57_4⟩ := fs5 BK114.out) | (go_at_call 42; (with_reducible refine (ih k3 (by have := HJ2.out; have := HJ30.out; have := HK3.out; omega) ((rd_T43 l0_4 x100_3).f0) ((rd_T43 l0_4 x100_3).f1) ((rd_T43 l0_4 x100_3).f2) ((rd_T43 l0_4 x100_3).f3) _ _ ((rd_T43 l0_4 x100_3).f4) (wrap64 (a1 + 1)) t115 _ ?side1 ?side2 A44.out).mono ?_); (case side1 => exact Kd.C_below HR113_4.out (hz2 HB.out GE107.out GE114.out)); (case side2 => exact HC113_4.out); rintro e w58 ⟨rfl, hb⟩; replace BK107 := am (blk_below (bf1 NB107_114.out BK107.out) hb); replace BK114 := am (blk_below (g := gb114) (o := .cells #[.int .i64 ((rd_T43 l0_4 x100_3).f0), .int .i64 ((rd_T43 l0_4 x100_3).f1), .int .i64 ((rd_T43 l0_4 x100_3).f2), .string ((rd_T43 l0_4 x100_3).f3), .slice A113_4 ((rd_T43 l0_4 x100_3).f4).length c113_4] 43 (0, 0)) (bp BK114.out) hb); replace HB := am (below_step (hz2 HB.out GE107.out GE114.out) hb))); try go_wp2_with (first | ((with_reducible refine gate_dst (N := 8) rfl ?_); (try (refine gate_guard (by rfl) ?_; dsimp only)); refine box_event rfl (N := 8) rfl (cs := #[.int .i64 0, .int .i64 0, .int .i64 0, .string (⟨#[]⟩ : ByteArray), .slice none 0 0]) (t := 43) gz ?_; intro gb114 hg w55 hbox hb; have BK114 := am (hbox); have GW114 := am ((bs hg (hz1 HB.out GE107.out) : w.heap.size ≤ gb114)); have GE114 := am ((bs hg (hz1 HB.out GE107.out) : w.heap.size ≤ gb114)); replace HB := am (below_step (hz1 HB.out GE107.out) hb); have NB107_114 := am ((nl hg (bz BK107.out) : gb107 ≠ gb114)); have NB114_107 := am ((ng hg (bz BK107.out) : gb114 ≠ gb107)); replace BK107 := am (blk_below (bz BK107.out) hb); clear hb hbox hg; have hnb56 := NB114_107.out; have hnc56 := NB107_114.out; obtain ⟨hcz57_0, hcz57_1, hcz57_2, hcz57_3, hcz57_4⟩ := cs5 BK114.out; obtain ⟨hfz57_0, hfz57_1, hfz57_2, hfz57_3, hfz57_4⟩ := fs5 BK114.out) | (go_at_call 42; (with_reducible refine (ih k3 (by have := HJ2.out; have := HJ30.out; have := HK3.out; omega) ((rd_T43 l0_4 x100_3).f0) ((rd_T43 l0_4 x100_3).f1) ((rd_T43 l0_4 x100_3).f2) ((rd_T43 l0_4 x100_3).f3) _ _ ((rd_T43 l0_4 x100_3).f4) (wrap64 (a1 + 1)) t115 _ ?side1 ?side2 A44.out).mono ?_); (case side1 => exact Kd.C_below HR113_4.out (hz2 HB.out GE107.out GE114.out)); (case side2 => exact HC113_4.out); rintro e w58 ⟨rfl, hb⟩; replace BK107 := am (blk_below (bf1 NB107_114.out BK107.out) hb); replace BK114 := am (blk_below (g := gb114) (o := .cells #[.int .i64 ((rd_T43 l0_4 x100_3).f0), .int .i64 ((rd_T43 l0_4 x100_3).f1), .int .i64 ((rd_T43 l0_4 x100_3).f2), .string ((rd_T43 l0_4 x100_3).f3), .slice A113_4 ((rd_T43 l0_4 x100_3).f4).length c113_4] 43 (0, 0)) (bp BK114.out) hb); replace HB := am (below_step (hz2 HB.out GE107.out GE114.out) hb))))
               go_roundg k3
               case measure => have := HJ2.out; have := HJ30.out; have := HK3.out; omega
               case rel => exact ⟨(wrap64 (x6_3 + t115)), (wrap64 (x100_3 + 1)), rfz, rfz, H', ⟨by have := HJ2.out; have := HJ30.out; have := HK3.out; omega⟩, ⟨by (with_reducible repeat (first | refine blk_drewN ?_ _ | refine blk_drew ?_ | refine blk_alloc ?_ _)); exact BK107.out⟩, ⟨hz2 HB.out GE107.out GE114.out⟩⟩
            ·
             rw [if_neg c41] at H
             have c41b0 : decide (x100_3 < (l0_4.length : Int)) = false := decide_eq_false c41
             clear c41
             obtain rfl := Option.some.inj H
             go_wp2
             repeat (go_quiet (fail); try go_wp2)
             go_ret
             exact ⟨ez, hz1 HB.out GE107.out⟩
      ·
       rw [if_neg c30] at H
       have c30b0 : (a0_1 == 3) = false := beq_eq_false_iff_ne.mpr c30
       have c30b1 : (a0_1 != 3) = true := bne_iff_ne.mpr c30
       obtain rfl := Option.some.inj H
       have hcz59_0 : wc.cell? ⟨gb107, 0, none⟩ = some (.int .i64 a0_0) := (blk_cell BK107.out 0).trans rfl
       have hcz59_1 : wc.cell? ⟨gb107, 1, none⟩ = some (.int .i64 a0_1) := (blk_cell BK107.out 1).trans rfl
       have hcz59_2 : wc.cell? ⟨gb107, 2, none⟩ = some (.int .i64 a0_2) := (blk_cell BK107.out 2).trans rfl
       have hcz59_3 : wc.cell? ⟨gb107, 3, none⟩ = some (.string a0_3) := (blk_cell BK107.out 3).trans rfl
       have hcz59_4 : wc.cell? ⟨gb107, 4, none⟩ = some (.slice A0_4 l0_4.length c0_4) := (blk_cell BK107.out 4).trans rfl
       have hfz59_0 := blk_frozen BK107.out 0
       have hfz59_1 := blk_frozen BK107.out 1
       have hfz59_2 := blk_frozen BK107.out 2
       have hfz59_3 := blk_frozen BK107.out 3
       have hfz59_4 := blk_frozen BK107.out 4
       go_wp2_with (first | (go_at_call 53; (with_reducible refine (codec_varintSize.calls kj2 (IntKind.u64.wrap (a0_0)) t108 _ A10.out).mono ?_); rintro e w' ⟨rfl, ⟨nd, rfl⟩⟩; (try first | exact ⟨rfl, _, World.drewN_drewN _ _ _⟩ | exact ⟨rfl, _, Eq.trans (World.drewN_drewN _ _ _) (congrArg (World.drewN _) (Nat.add_assoc _ _ _))⟩)))
       repeat (go_quiet (first | (go_at_call 53; (with_reducible refine (codec_varintSize.calls kj2 (IntKind.u64.wrap (a0_0)) t108 _ A10.out).mono ?_); rintro e w' ⟨rfl, ⟨nd, rfl⟩⟩; (try first | exact ⟨rfl, _, World.drewN_drewN _ _ _⟩ | exact ⟨rfl, _, Eq.trans (World.drewN_drewN _ _ _) (congrArg (World.drewN _) (Nat.add_assoc _ _ _))⟩))); try go_wp2_with (first | (go_at_call 53; (with_reducible refine (codec_varintSize.calls kj2 (IntKind.u64.wrap (a0_0)) t108 _ A10.out).mono ?_); rintro e w' ⟨rfl, ⟨nd, rfl⟩⟩; (try first | exact ⟨rfl, _, World.drewN_drewN _ _ _⟩ | exact ⟨rfl, _, Eq.trans (World.drewN_drewN _ _ _) (congrArg (World.drewN _) (Nat.add_assoc _ _ _))⟩))))
       go_ret
       exact ⟨ez, hz1 HB.out GE107.out⟩

/-! ### codec_putVarint: function 55 -/
def codec_putVarint.l0 : Nat → List Int → Int → Option (List Int)
 | 0, _, _ => none
 | k + 1, x0, x1 => if x1 > 127 then (if x0.length < 140737488355328 then (codec_putVarint.l0 k (x0 ++ [Go.bits .or .u8 ((x1) % 256) 128]) (x1 / 128)) else (none)) else (if x0.length < 140737488355328 then (some (x0 ++ [(x1) % 256])) else (none))
def codec_putVarint.f (k : Nat) (l0 : List Int) (a1 : Int) : Option (List Int) := codec_putVarint.l0 k l0 a1
theorem codec_putVarint.mono_l : ∀ k, (∀ y0 y1, LeO (codec_putVarint.l0 k y0 y1) (codec_putVarint.l0 (k + 1) y0 y1))
 | 0 => fun _ _ r h => by simp [codec_putVarint.l0] at h
 | k + 1 => by
  have ih0 := codec_putVarint.mono_l k
  ·
   intro y0 y1
   unfold codec_putVarint.l0
   repeat' first
   | (with_reducible exact ih0 _ _)
   | (with_reducible exact LeO.refl _)
   | (with_reducible exact LeO.none _)
   | (with_reducible refine LeO.ite ?_ ?_)
   | (with_reducible refine LeO.bind ?_ (fun _ => ?_))
   | exact ih0 _ _
   | exact LeO.none _
   | refine LeO.ite ?_ ?_
   | refine LeO.bind ?_ (fun _ => ?_)
theorem codec_putVarint.mono : ∀ a0 a1 k, LeO (codec_putVarint.f k a0 a1) (codec_putVarint.f (k + 1) a0 a1) := by
 intro a0 a1 k
 have ih0 := codec_putVarint.mono_l k
 unfold codec_putVarint.f
 repeat' first
   | (with_reducible exact ih0 _ _)
   | (with_reducible exact LeO.refl _)
   | (with_reducible exact LeO.none _)
   | (with_reducible refine LeO.ite ?_ ?_)
   | (with_reducible refine LeO.bind ?_ (fun _ => ?_))
   | exact ih0 _ _
   | exact LeO.none _
   | refine LeO.ite ?_ ?_
   | refine LeO.bind ?_ (fun _ => ?_)
set_option maxHeartbeats 8000000 in
set_option maxRecDepth 100000 in
theorem codec_putVarint.calls (k : Nat) (P0_ : Nat → Prop) (u9000_ : Value) (l0 : List Int) (a1 : Int) (r : List Int) (w0 w : World) (hB : Below w0.heap.size w0 w) (ho0 : Kd.R (Kd.int .u8) 5 w w0.heap.size P0_ u9000_ l0) (h : codec_putVarint.f k l0 a1 = some r) :
  Calls Tryd.prog 55 #[u9000_, .int .u64 a1] w fun e w' => ∃ v0_ : Value, e = .returned (v0_) ∧ Kd.R (Kd.int .u8) 5 w' w0.heap.size (fun k_ => (P0_ k_ ∨ w.heap.size ≤ k_)) v0_ r ∧ Below w0.heap.size w0 w' ∧ Kept w w' (fun k_ => P0_ k_) := by
 have HO0 := am (show Kd.R (Kd.int .u8) 5 w w0.heap.size (fun k_ => (P0_ k_ ∨ w.heap.size ≤ k_)) u9000_ l0 from Kd.R_mono ho0 (fun k_ hk => (.inl hk)))
 have HK := am (Kept.refl w (fun k_ => P0_ k_))
 have HW0 := am hB.size
 have HB := am hB
 clear hB
 have H : (codec_putVarint.l0 k l0 a1) = some r := h
 clear h
 have H' := am H
 clear H
 go_enter Tryd.func55, Tryd.ntmps55
 go_wp2
 go_loopg [0, 1] k (fun kq v0 v1 w' => ∃ (x0_1 : List Int) (x1_1 : Int), v1 = .int .u64 x1_1 ∧ Aside0 (codec_putVarint.l0 kq x0_1 x1_1 = some r) ∧ Aside0 (kq ≤ k) ∧ Aside0 (Kd.R (Kd.int .u8) 5 w' w0.heap.size (fun k_ => (P0_ k_ ∨ w.heap.size ≤ k_)) v0 x0_1) ∧ Aside0 (Kept w w' (fun k_ => P0_ k_)) ∧ Aside0 (Below w0.heap.size w0 w'))
 case atStart => exact ⟨(l0), (a1), rfz, H', ⟨Nat.le_refl _⟩, ⟨rz HO0.out⟩, ⟨by repeat (first | (with_reducible first | exact HK.out | apply Kept.alloc | apply Kept.drewN | apply Kept.drew) | exact HK.out)⟩, ⟨hz HB.out⟩⟩
 case round =>
  clear H'
  obtain ⟨x0_1, x1_1, rfl, HA, HK1, HO_0, HK, HB⟩ := hrel
  cases gk with
  | zero => exact absurd HA.out (by simp [codec_putVarint.l0])
  | succ k1 =>
   have H := HA.out
   clear HA
   simp only [codec_putVarint.l0] at H
   by_cases c3 : x1_1 > 127
   ·
    rw [if_pos c3] at H
    have c3b0 : decide (127 < x1_1) = true := decide_eq_true c3
    clear c3
    replace H := it_ H
    obtain ⟨c4, H⟩ := H
    have LMc4 := am c4
    clear c4
    obtain ⟨y116, hy116⟩ : ∃ y_ : List Int, y_ = (x0_1 ++ [Go.bits .or .u8 ((x1_1) % 256) 128]) := ⟨_, rfl⟩
    replace H : (codec_putVarint.l0 k1 y116 (x1_1 / 128)) = some r := by first | (rw [hy116]; with_reducible exact H) | (have H2_ := (Option.bind_some _ _).symm.trans H; rw [hy116]; with_reducible exact H2_) | (have H2_ := (Option.bind_some _ _).symm.trans H; with_reducible exact H2_) | with_reducible exact H | (rw [hy116]; exact H) | exact H
    have Ny116 := am hy116
    clear hy116
    have H' := am H
    clear H
    go_wp2_with (first | ((with_reducible refine gate_builtin (b := .append) (xs := #[.tmp 9, .tmp 13]) rfl ?_); at_builtin; refine Kd.R_append (Kd.int .u8) (w0 := w0) w0.heap.size rfl (.tmp 9) (.tmp 13) 24 5 (.int .u8 0) 1 rfl Tryd.underlying24 info5 rfl (by decide) (by omega) u0 x0_1 (Go.bits .or .u8 ((x1_1) % 256) 128) [.int .u8 (Go.bits .or .u8 ((x1_1) % 256) 128)] (fun k_ => (P0_ k_ ∨ w.heap.size ≤ k_)) (fun _ => False) rfl rfl ?aP (fun _ hk => hk.elim) ?aF ?aO ?aB ?aS ?aL ?_; (case aP => exact rfl); (case aB => exact (hz HB.out)); (case aF => exact (fun k_ hk => (.inr (Nat.le_trans (by first | exact HK.out.1 | exact (show Kept w _ (fun k_ => P0_ k_) from by repeat (first | (with_reducible first | exact HK.out | apply Kept.alloc | apply Kept.drewN | apply Kept.drew) | exact HK.out)).1) hk)))); (case aO => exact (rz HO_0.out)); (case aS => exact (below_size (hz HB.out))); (case aL => have := LMc4.out; omega); intro v117 w5 ho hb hg hat; rw [← Ny116.out] at ho; replace HB := am (hb); replace HK := am (Kept.of_grown (S := (fun k_ => P0_ k_)) hg (by repeat (first | (with_reducible first | exact HK.out | apply Kept.alloc | apply Kept.drewN | apply Kept.drew) | exact HK.out)) (fun k_ e_ => (HO_0.out.1 k_ e_))); have HO118 := am (ho); clear HO_0; clear ho hb hg hat))
    go_roundg k1
    case measure => have := HK1.out; omega
    case rel => exact ⟨(y116), (x1_1 / 128), rfz, H', ⟨by have := HK1.out; omega⟩, ⟨rz HO118.out⟩, ⟨by repeat (first | (with_reducible first | exact HK.out | apply Kept.alloc | apply Kept.drewN | apply Kept.drew) | exact HK.out)⟩, ⟨hz HB.out⟩⟩
   ·
    rw [if_neg c3] at H
    have c3b0 : decide (127 < x1_1) = false := decide_eq_false c3
    clear c3
    replace H := it_ H
    obtain ⟨c6, H⟩ := H
    have LMc6 := am c6
    clear c6
    obtain ⟨y119, hy119⟩ : ∃ y_ : List Int, y_ = (x0_1 ++ [(x1_1) % 256]) := ⟨_, rfl⟩
    replace H : (some y119) = some r := by first | (rw [hy119]; with_reducible exact H) | (have H2_ := (Option.bind_some _ _).symm.trans H; rw [hy119]; with_reducible exact H2_) | (have H2_ := (Option.bind_some _ _).symm.trans H; with_reducible exact H2_) | with_reducible exact H | (rw [hy119]; exact H) | exact H
    have Ny119 := am hy119
    clear hy119
    obtain rfl := Option.some.inj H
    go_wp2_with (first | ((with_reducible refine gate_builtin (b := .append) (xs := #[.tmp 15, .tmp 18]) rfl ?_); at_builtin; refine Kd.R_append (Kd.int .u8) (w0 := w0) w0.heap.size rfl (.tmp 15) (.tmp 18) 24 5 (.int .u8 0) 1 rfl Tryd.underlying24 info5 rfl (by decide) (by omega) u0 x0_1 ((x1_1) % 256) [.int .u8 ((x1_1) % 256)] (fun k_ => (P0_ k_ ∨ w.heap.size ≤ k_)) (fun _ => False) rfl rfl ?aP (fun _ hk => hk.elim) ?aF ?aO ?aB ?aS ?aL ?_; (case aP => exact rfl); (case aB => exact (hz HB.out)); (case aF => exact (fun k_ hk => (.inr (Nat.le_trans (by first | exact HK.out.1 | exact (show Kept w _ (fun k_ => P0_ k_) from by repeat (first | (with_reducible first | exact HK.out | apply Kept.alloc | apply Kept.drewN | apply Kept.drew) | exact HK.out)).1) hk)))); (case aO => exact (rz HO_0.out)); (case aS => exact (below_size (hz HB.out))); (case aL => have := LMc6.out; omega); intro v120 w7 ho hb hg hat; rw [← Ny119.out] at ho; replace HB := am (hb); replace HK := am (Kept.of_grown (S := (fun k_ => P0_ k_)) hg (by repeat (first | (with_reducible first | exact HK.out | apply Kept.alloc | apply Kept.drewN | apply Kept.drew) | exact HK.out)) (fun k_ e_ => (HO_0.out.1 k_ e_))); have HO121 := am (ho); clear HO_0; clear ho hb hg hat))
    go_ret
    exact ⟨_, ew, rz HO121.out, hz HB.out, by repeat (first | (with_reducible first | exact HK.out | apply Kept.alloc | apply Kept.drewN | apply Kept.drew) | exact HK.out)⟩

end Go.Proofs.YteeggfnailpcpaaDoor.Q
