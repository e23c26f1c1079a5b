/- Made by wip/myprint.py of this session (it drives the kit's printer): what the calls of the Go functions come to, as plain Lean functions, and the row of a law over them; without conditions. -/
import Derived.Test.YtglpnbcockancaaQx0
import Derived.Test.YtglpnbcockancaaQx1
import Derived.Test.YtglpnbcockancaaQx2
namespace Go.Proofs.Ytglpnbcockancaa.Q
open Go.RowKit Go.Proofs.YtglpnbcockancaaW.PrintWords Go.Proofs.YtglpnbcockancaaW.PrintLast Go.Proofs.YtglpnbcockancaaW.PrintMore
attribute [local go_sem] max2_int min2_int max_two min_two max_three min_three max_four min_four   -- for this text's walks alone
set_option linter.unusedVariables false
set_option linter.unusedSimpArgs false

/-! ### upload_valid: function 36 -/
mutual
def upload_valid.l0 : Nat → List (S25) → Int → Int → Int → List Int → List (S25) → Option (Bool)
 | 0, _, _, _, _, _, _ => none
 | k + 1, x24, x25, x26, x202000, x202001, x202002 => if x26 < x25 then (if 0 ≤ x26 then (if x26 < (x24.length : Int) then ((upload_check.f k ((rd_T25 x24 x26).f0) ((rd_T25 x24 x26).f1) ((rd_T25 x24 x26).f2) ((rd_T25 x24 x26).f3)).bind fun t205 => (if t205 = 0 then (if ((rd_T25 x24 x26).f0) = x202000 then (if ((rd_T25 x24 x26).f1) ≤ (x202001.length : Int) then (none) else (if x26 > 0 then (if 0 ≤ (wrap64 (x26 - 1)) then (if (wrap64 (x26 - 1)) < (x202002.length : Int) then ((upload_before.f ((rd_T25 x202002 (wrap64 (x26 - 1))).f0) ((rd_T25 x202002 (wrap64 (x26 - 1))).f1) ((rd_T25 x202002 (wrap64 (x26 - 1))).f2) ((rd_T25 x202002 (wrap64 (x26 - 1))).f3) ((rd_T25 x24 x26).f0) ((rd_T25 x24 x26).f1) ((rd_T25 x24 x26).f2) ((rd_T25 x24 x26).f3)).bind fun t207 => (upload_valid.j1 k x26 x24 x25 x26 (!t207) x202000 x202001 x202002 ((rd_T25 x24 x26).f0) ((rd_T25 x24 x26).f1) ((rd_T25 x24 x26).f2) ((rd_T25 x24 x26).f3))) else (none)) else (none)) else (upload_valid.j1 k x26 x24 x25 x26 false x202000 x202001 x202002 ((rd_T25 x24 x26).f0) ((rd_T25 x24 x26).f1) ((rd_T25 x24 x26).f2) ((rd_T25 x24 x26).f3)))) else (none)) else (none))) else (none)) else (none)) else (some true)
def upload_valid.j1 : Nat → Int → List (S25) → Int → Int → Bool → Int → List Int → List (S25) → Int → Int → List Int → Int → Option (Bool)
 | 0, _, _, _, _, _, _, _, _, _, _, _, _ => none
 | k + 1, x3, x24, x25, x26, x63, x202000, x202001, x202002, x205000, x205001, x205002, x205003 => if x63 = true then (none) else (if 0 ≤ x3 then (if x3 ≤ (x202002.length : Int) then ((some (x202002.take (x3 : Int).toNat : List (S25))).bind fun y208 => (upload_valid.l1 k x24 x25 x26 y208 (y208.length : Int) 0 x202000 x202001 x202002 x205000 x205001 x205002 x205003)) else (none)) else (none))
def upload_valid.l1 : Nat → List (S25) → Int → Int → List (S25) → Int → Int → Int → List Int → List (S25) → Int → Int → List Int → Int → Option (Bool)
 | 0, _, _, _, _, _, _, _, _, _, _, _, _, _ => none
 | k + 1, x24, x25, x26, x67, x68, x69, x202000, x202001, x202002, x205000, x205001, x205002, x205003 => if x69 < x68 then (if 0 ≤ x69 then (if x69 < (x67.length : Int) then ((upload_agree.f x205002 x205001 ((rd_T25 x67 x69).f2) ((rd_T25 x67 x69).f1)).bind fun t214 => (if t214 = true then (upload_valid.l1 k x24 x25 x26 x67 x68 (wrap64 (x69 + 1)) x202000 x202001 x202002 x205000 x205001 x205002 x205003) else (none))) else (none)) else (none)) else (upload_valid.l0 k x24 x25 (wrap64 (x26 + 1)) x202000 x202001 x202002)
end
def upload_valid.f (k : Nat) (a0_0 : Int) (l0_1 : List Int) (l0_2 : List (S25)) : Option (Bool) := (upload_number.f a0_0).bind fun t202 => (if t202 = true then (if (l0_1.length : Int) > 1048576 then (none) else (if (l0_2.length : Int) > 1024 then (some false) else (upload_valid.l0 k l0_2 (l0_2.length : Int) 0 a0_0 l0_1 l0_2))) else (none))
theorem upload_valid.mono_l : ∀ k, (∀ y0 y1 y2 y3 y4 y5, LeO (upload_valid.l0 k y0 y1 y2 y3 y4 y5) (upload_valid.l0 (k + 1) y0 y1 y2 y3 y4 y5)) ∧ (∀ y0 y1 y2 y3 y4 y5 y6 y7 y8 y9 y10 y11, LeO (upload_valid.j1 k y0 y1 y2 y3 y4 y5 y6 y7 y8 y9 y10 y11) (upload_valid.j1 (k + 1) y0 y1 y2 y3 y4 y5 y6 y7 y8 y9 y10 y11)) ∧ (∀ y0 y1 y2 y3 y4 y5 y6 y7 y8 y9 y10 y11 y12, LeO (upload_valid.l1 k y0 y1 y2 y3 y4 y5 y6 y7 y8 y9 y10 y11 y12) (upload_valid.l1 (k + 1) y0 y1 y2 y3 y4 y5 y6 y7 y8 y9 y10 y11 y12))
 | 0 => ⟨fun _ _ _ _ _ _ r h => by simp [upload_valid.l0] at h, fun _ _ _ _ _ _ _ _ _ _ _ _ r h => by simp [upload_valid.j1] at h, fun _ _ _ _ _ _ _ _ _ _ _ _ _ r h => by simp [upload_valid.l1] at h⟩
 | k + 1 => by
  obtain ⟨ih0, ih1, ih2⟩ := upload_valid.mono_l k
  refine ⟨?_, ?_, ?_⟩
  ·
   intro y0 y1 y2 y3 y4 y5
   unfold upload_valid.l0
   repeat' first
   | (with_reducible exact ih0 _ _ _ _ _ _)
   | (with_reducible exact ih1 _ _ _ _ _ _ _ _ _ _ _ _)
   | (with_reducible exact ih2 _ _ _ _ _ _ _ _ _ _ _ _ _)
   | (with_reducible exact upload_check.mono _ _ _ _ _)
   | (with_reducible exact LeO.refl _)
   | (with_reducible exact LeO.none _)
   | (with_reducible refine LeO.ite ?_ ?_)
   | (with_reducible refine LeO.bind ?_ (fun _ => ?_))
   | exact ih0 _ _ _ _ _ _
   | exact ih1 _ _ _ _ _ _ _ _ _ _ _ _
   | exact ih2 _ _ _ _ _ _ _ _ _ _ _ _ _
   | exact upload_check.mono _ _ _ _ _
   | exact LeO.none _
   | refine LeO.ite ?_ ?_
   | refine LeO.bind ?_ (fun _ => ?_)
  ·
   intro y0 y1 y2 y3 y4 y5 y6 y7 y8 y9 y10 y11
   unfold upload_valid.j1
   repeat' first
   | (with_reducible exact ih0 _ _ _ _ _ _)
   | (with_reducible exact ih1 _ _ _ _ _ _ _ _ _ _ _ _)
   | (with_reducible exact ih2 _ _ _ _ _ _ _ _ _ _ _ _ _)
   | (with_reducible exact upload_check.mono _ _ _ _ _)
   | (with_reducible exact LeO.refl _)
   | (with_reducible exact LeO.none _)
   | (with_reducible refine LeO.ite ?_ ?_)
   | (with_reducible refine LeO.bind ?_ (fun _ => ?_))
   | exact ih0 _ _ _ _ _ _
   | exact ih1 _ _ _ _ _ _ _ _ _ _ _ _
   | exact ih2 _ _ _ _ _ _ _ _ _ _ _ _ _
   | exact upload_check.mono _ _ _ _ _
   | exact LeO.none _
   | refine LeO.ite ?_ ?_
   | refine LeO.bind ?_ (fun _ => ?_)
  ·
   intro y0 y1 y2 y3 y4 y5 y6 y7 y8 y9 y10 y11 y12
   unfold upload_valid.l1
   repeat' first
   | (with_reducible exact ih0 _ _ _ _ _ _)
   | (with_reducible exact ih1 _ _ _ _ _ _ _ _ _ _ _ _)
   | (with_reducible exact ih2 _ _ _ _ _ _ _ _ _ _ _ _ _)
   | (with_reducible exact upload_check.mono _ _ _ _ _)
   | (with_reducible exact LeO.refl _)
   | (with_reducible exact LeO.none _)
   | (with_reducible refine LeO.ite ?_ ?_)
   | (with_reducible refine LeO.bind ?_ (fun _ => ?_))
   | exact ih0 _ _ _ _ _ _
   | exact ih1 _ _ _ _ _ _ _ _ _ _ _ _
   | exact ih2 _ _ _ _ _ _ _ _ _ _ _ _ _
   | exact upload_check.mono _ _ _ _ _
   | exact LeO.none _
   | refine LeO.ite ?_ ?_
   | refine LeO.bind ?_ (fun _ => ?_)
theorem upload_valid.mono : ∀ a0 a1 a2 k, LeO (upload_valid.f k a0 a1 a2) (upload_valid.f (k + 1) a0 a1 a2) := by
 intro a0 a1 a2 k
 obtain ⟨ih0, ih1, ih2⟩ := upload_valid.mono_l k
 unfold upload_valid.f
 repeat' first
   | (with_reducible exact ih0 _ _ _ _ _ _)
   | (with_reducible exact ih1 _ _ _ _ _ _ _ _ _ _ _ _)
   | (with_reducible exact ih2 _ _ _ _ _ _ _ _ _ _ _ _ _)
   | (with_reducible exact upload_check.mono _ _ _ _ _)
   | (with_reducible exact LeO.refl _)
   | (with_reducible exact LeO.none _)
   | (with_reducible refine LeO.ite ?_ ?_)
   | (with_reducible refine LeO.bind ?_ (fun _ => ?_))
   | exact ih0 _ _ _ _ _ _
   | exact ih1 _ _ _ _ _ _ _ _ _ _ _ _
   | exact ih2 _ _ _ _ _ _ _ _ _ _ _ _ _
   | exact upload_check.mono _ _ _ _ _
   | exact LeO.none _
   | refine LeO.ite ?_ ?_
   | refine LeO.bind ?_ (fun _ => ?_)
def upload_valid.T6 : Bool × List (List Nat × List Nat) := (true, [([], []), ([0], [0]), ([1], [1]), ([2, 1], [2]), ([3], [3]), ([4, 3], [3, 4]), ([3], [3]), ([6, 3], [3, 6]), ([5, 7, 3], [3, 5, 7]), ([3, 8], [3, 8]), ([9, 3], [9]), ([10], [10]), ([11, 10], [10, 11]), ([10], [10]), ([13, 10], [10, 13]), ([14, 10], [10, 14]), ([12, 15, 10], [10, 12, 15]), ([10, 16], [10, 16]), ([17, 10], [17]), ([18], [18]), ([19, 18], [18, 19]), ([20, 18, 18], [18, 20]), ([21], [21]), ([22, 21], [21, 22]), ([21], [21]), ([24, 21], [21, 24]), ([23, 25, 21], [21, 23, 25]), ([26, 21], [21, 26]), ([21], [21]), ([27, 28, 21, 21], [21, 27, 28]), ([29, 21], [21, 29]), ([21, 30, 18], [18, 21, 30]), ([18, 31], [18, 31])])
def upload_valid.B6 : List Nat := [0, 1, 3, 7, 15, 31, 15, 79, 255, 511, 1023, 2047, 4095, 2047, 10239, 26623, 65535, 131071, 262143, 524287, 1048575, 2097151, 4194303, 8388607, 4194303, 20971519, 67108863, 134217727, 4194303, 536870911, 1073741823, 2147483647, 4294967295]
theorem upload_valid.tab6 : rtab .any (opsOf Try.f36 6) = upload_valid.T6 := by kernel_rfl
theorem upload_valid.bits6 : waitsOk upload_valid.T6.2 upload_valid.B6 = true := by kernel_rfl
set_option maxHeartbeats 8000000 in
set_option maxRecDepth 100000 in
theorem upload_valid.calls (k : Nat) (a0_0 : Int) (A0_1 : Option Addr) (c0_1 : Nat) (l0_1 : List Int) (A0_2 : Option Addr) (c0_2 : Nat) (l0_2 : List (S25)) (r : Bool) (w : World) (hr0_1 : Kd.C (Kd.int .u8) w A0_1 l0_1.length l0_1) (hc0_1 : l0_1.length ≤ c0_1) (hr0_2 : Kd.C k25 w A0_2 l0_2.length l0_2) (hc0_2 : l0_2.length ≤ c0_2) (h : upload_valid.f k a0_0 l0_1 l0_2 = some r) :
  Calls Try.prog 36 #[.agg #[.int .i64 a0_0, .slice A0_1 l0_1.length c0_1, .slice A0_2 l0_2.length c0_2]] w fun e w' => e = .returned (.bool r) ∧ Below w.heap.size w w' := by
 have hu34 := Try.underlying34
 have hu25 := Try.underlying25
 have HR0_1 := am hr0_1
 have HC0_1 := am hc0_1
 clear hr0_1 hc0_1
 have HR0_2 := am hr0_2
 have HC0_2 := am hc0_2
 clear hr0_2 hc0_2
 have HB := am (Below.refl w.heap.size w)
 have H : ((upload_number.f a0_0).bind fun t202 => (if t202 = true then (if (l0_1.length : Int) > 1048576 then (none) else (if (l0_2.length : Int) > 1024 then (some false) else (upload_valid.l0 k l0_2 (l0_2.length : Int) 0 a0_0 l0_1 l0_2))) else (none))) = some r := h
 clear h
 replace H := Option.bind_eq_some_iff.mp H
 obtain ⟨t202, A20, H⟩ := H
 replace H : (if t202 = true then (if (l0_1.length : Int) > 1048576 then (none) else (if (l0_2.length : Int) > 1024 then (some false) else (upload_valid.l0 k l0_2 (l0_2.length : Int) 0 a0_0 l0_1 l0_2))) else (none)) = some r := H
 have A2 := am A20
 clear A20
 by_cases c3 : t202 = true
 ·
  subst c3
  have H1 : (if (l0_1.length : Int) > 1048576 then (none) else (if (l0_2.length : Int) > 1024 then (some false) else (upload_valid.l0 k l0_2 (l0_2.length : Int) 0 a0_0 l0_1 l0_2))) = some r := by rw [if_pos rfl] at H; exact H
  clear H
  have H := H1
  clear H1
  replace H := ie_ H
  obtain ⟨c4, H⟩ := H
  have c4b0 : decide (1048576 < (l0_1.length : Int)) = false := decide_eq_false c4
  have c4b1 : decide (1048576 < l0_1.length) = false := decide_eq_false (by omega)
  clear c4
  by_cases c5 : (l0_2.length : Int) > 1024
  ·
   rw [if_pos c5] at H
   have c5b0 : decide (1024 < (l0_2.length : Int)) = true := decide_eq_true c5
   have c5b1 : decide (1024 < l0_2.length) = true := decide_eq_true (by omega)
   clear c5
   obtain rfl := Option.some.inj H
   go_enter Try.func36, Try.ntmps36
   go_wp2_with (first | ((with_reducible refine gate_dst (N := 1) rfl ?_); (try (refine gate_guard (by rfl) ?_; dsimp only)); refine box_event ?hg (N := 1) ?hd (cs := #[.int .i64 a0_0, .slice A0_1 l0_1.length c0_1, .slice A0_2 l0_2.length c0_2]) (t := 34) ?hr ?_; (case hd => rfl); (case hg => rfl); (case hr => exact gz); intro gb201 hg w6 hbox hb; have BK201 := am (hbox); have GW201 := am ((bs hg (hz HB.out) : w.heap.size ≤ gb201)); have GE201 := am ((bs hg (hz HB.out) : w.heap.size ≤ gb201)); replace HB := am (below_step (hz HB.out) hb); clear hb hbox hg; obtain ⟨hcz7_0, hcz7_1, hcz7_2⟩ := cs3 BK201.out; obtain ⟨hfz7_0, hfz7_1, hfz7_2⟩ := fs3 BK201.out) | ((with_reducible refine gate_callee (f := 34) rfl ?_); refine goesL_ (some 9) rfl rfl Try.func34 (by kernel_rfl) rfl #[.int .i64 a0_0] rfl lz ?_; (with_reducible refine (upload_number.calls a0_0 true _ A2.out).mono ?_); rintro e w' ⟨rfl, ⟨nd, rfl⟩⟩; refine ⟨_, rfl, ?_⟩))
   go_ret
   exact ⟨ez, hz1 HB.out GE201.out⟩
  ·
   rw [if_neg c5] at H
   have c5b0 : decide (1024 < (l0_2.length : Int)) = false := decide_eq_false c5
   have c5b1 : decide (1024 < l0_2.length) = false := decide_eq_false (by omega)
   clear c5
   have H' := am H
   clear H
   go_enter Try.func36, Try.ntmps36
   go_wp2_with (first | ((with_reducible refine gate_dst (N := 1) rfl ?_); (try (refine gate_guard (by rfl) ?_; dsimp only)); refine box_event ?hg (N := 1) ?hd (cs := #[.int .i64 a0_0, .slice A0_1 l0_1.length c0_1, .slice A0_2 l0_2.length c0_2]) (t := 34) ?hr ?_; (case hd => rfl); (case hg => rfl); (case hr => exact gz); intro gb201 hg w8 hbox hb; have BK201 := am (hbox); have GW201 := am ((bs hg (hz HB.out) : w.heap.size ≤ gb201)); have GE201 := am ((bs hg (hz HB.out) : w.heap.size ≤ gb201)); replace HB := am (below_step (hz HB.out) hb); clear hb hbox hg; obtain ⟨hcz9_0, hcz9_1, hcz9_2⟩ := cs3 BK201.out; obtain ⟨hfz9_0, hfz9_1, hfz9_2⟩ := fs3 BK201.out) | ((with_reducible refine gate_callee (f := 34) rfl ?_); refine goesL_ (some 9) rfl rfl Try.func34 (by kernel_rfl) rfl #[.int .i64 a0_0] rfl lz ?_; (with_reducible refine (upload_number.calls a0_0 true _ A2.out).mono ?_); rintro e w' ⟨rfl, ⟨nd, rfl⟩⟩; refine ⟨_, rfl, ?_⟩))
   go_loopg [26] k (fun kq v26 w' => ∃ (x26_1 : Int), v26 = .int .i64 x26_1 ∧ Aside0 (upload_valid.l0 kq l0_2 (l0_2.length : Int) x26_1 a0_0 l0_1 l0_2 = some r) ∧ Aside0 (kq ≤ k) ∧ Aside0 (w'.heap[gb201]? = some (.cells #[.int .i64 a0_0, (.slice A0_1 l0_1.length c0_1), (.slice A0_2 l0_2.length c0_2)] 34 (0, 0))) ∧ Aside0 (Below w.heap.size w w'))
   case atStart => exact ⟨(0), (by first | rfl | (simp; done) | (simp [*]; done)), H', ⟨Nat.le_refl _⟩, ⟨by (with_reducible repeat (first | refine blk_drewN ?_ _ | refine blk_drew ?_ | refine blk_alloc ?_ _)); exact BK201.out⟩, ⟨hz1 HB.out GE201.out⟩⟩
   case round =>
    clear H'
    try clear p2
    try clear c3
    try clear c4
    try clear c4b0
    try clear c4b1
    try clear c5
    try clear c5b0
    try clear c5b1
    try clear hcz7_0
    try clear hcz7_1
    try clear hcz7_2
    try clear hcz9_0
    try clear hcz9_1
    try clear hcz9_2
    try clear hfz7_0
    try clear hfz7_1
    try clear hfz7_2
    try clear hfz9_0
    try clear hfz9_1
    try clear hfz9_2
    obtain ⟨x26_1, rfl, HA, HK1, BK201, HB⟩ := hrel
    cases gk with
    | zero => exact absurd HA.out (by simp [upload_valid.l0])
    | succ k1 =>
     have H := HA.out
     clear HA
     simp only [upload_valid.l0] at H
     by_cases c10 : x26_1 < (l0_2.length : Int)
     ·
      rw [if_pos c10] at H
      have c10b0 : decide (x26_1 < (l0_2.length : Int)) = true := decide_eq_true c10
      clear c10
      replace H := it_ H
      obtain ⟨c11, H⟩ := H
      have c11b0 : decide (0 ≤ x26_1) = true := decide_eq_true c11
      clear c11
      replace H := it_ H
      obtain ⟨c12, H⟩ := H
      have c12b0 : decide (x26_1 < (l0_2.length : Int)) = true := decide_eq_true c12
      clear c12
      have HC13 := am H
      clear H
      have p203 : 0 ≤ (x26_1 : Int) := of_decide_eq_true az
      have q203 : x26_1 < (l0_2.length : Int) := of_decide_eq_true az
      obtain ⟨ad203, A203_2, c203_2, e203, hx203_0, hx203_1, hx203_2, hx203_3, hl203_2, hi203_2⟩ := at_T25 HR0_2.out x26_1 p203 q203
      cases e203
      replace hx203_0 := (HB.out.cell (World.block_lt_of_cell? w _ hx203_0)).trans hx203_0
      replace hx203_1 := (HB.out.cell (World.block_lt_of_cell? w _ hx203_1)).trans hx203_1
      replace hx203_2 := (HB.out.cell (World.block_lt_of_cell? w _ hx203_2)).trans hx203_2
      replace hx203_3 := (HB.out.cell (World.block_lt_of_cell? w _ hx203_3)).trans hx203_3
      have HR203_2 := am hi203_2
      have HC203_2 := am hl203_2
      clear hi203_2 hl203_2
      replace p203 := eq_true p203
      replace q203 := eq_true q203
      go_upto_region 6 with (first | ((with_reducible refine gate_dst (N := 4) rfl ?_); (try (refine gate_guard (by rfl) ?_; dsimp only)); refine box_event ?hg (N := 4) ?hd (cs := #[.int .i64 0, .int .i64 0, .slice none 0 0, .int .u64 0]) (t := 25) ?hr ?_; (case hd => rfl); (case hg => rfl); (case hr => exact gz); intro gb204 hg w14 hbox hb; have BK204 := am (hbox); have GW204 := am ((bs hg (hz1 HB.out GE201.out) : w.heap.size ≤ gb204)); have GE204 := am ((bs hg (hz1 HB.out GE201.out) : w.heap.size ≤ gb204)); replace HB := am (below_step (hz1 HB.out GE201.out) hb); have NB201_204 := am ((nl hg (bz BK201.out) : gb201 ≠ gb204)); have NB204_201 := am ((ng hg (bz BK201.out) : gb204 ≠ gb201)); replace BK201 := am (blk_below (bz BK201.out) hb); clear hb hbox hg; have hnb15 := NB204_201.out; have hnc15 := NB201_204.out; obtain ⟨hcz16_0, hcz16_1, hcz16_2, hcz16_3⟩ := cs4 BK204.out; obtain ⟨hfz16_0, hfz16_1, hfz16_2, hfz16_3⟩ := fs4 BK204.out))
      (try simp only [Act.put, List.setIfInBounds_toArray, List.set_cons_zero, List.set_cons_succ])
      go_cut [63] (fun v63 wc => ∃ (kq : Nat) (x63_12 : Bool), v63 = .bool x63_12 ∧ Aside0 (upload_valid.j1 kq x26_1 l0_2 (l0_2.length : Int) x26_1 x63_12 a0_0 l0_1 l0_2 ((rd_T25 l0_2 x26_1).f0) ((rd_T25 l0_2 x26_1).f1) ((rd_T25 l0_2 x26_1).f2) ((rd_T25 l0_2 x26_1).f3) = some r) ∧ Aside0 (kq ≤ k1) ∧ Aside0 (wc.heap[gb201]? = some (.cells #[.int .i64 a0_0, (.slice A0_1 l0_1.length c0_1), (.slice (some ad203) l0_2.length c0_2)] 34 (0, 0))) ∧ Aside0 (wc.heap[gb204]? = some (.cells #[.int .i64 ((rd_T25 l0_2 x26_1).f0), .int .i64 ((rd_T25 l0_2 x26_1).f1), (.slice A203_2 ((rd_T25 l0_2 x26_1).f2).length c203_2), .int .u64 ((rd_T25 l0_2 x26_1).f3)] 25 (0, 0))) ∧ Aside0 (Below w.heap.size w wc))
      case first =>
       have H := HC13.out
       clear HC13
       replace H := Option.bind_eq_some_iff.mp H
       obtain ⟨t205, A170, H⟩ := H
       replace H : (if t205 = 0 then (if ((rd_T25 l0_2 x26_1).f0) = a0_0 then (if ((rd_T25 l0_2 x26_1).f1) ≤ (l0_1.length : Int) then (none) else (if x26_1 > 0 then (if 0 ≤ (wrap64 (x26_1 - 1)) then (if (wrap64 (x26_1 - 1)) < (l0_2.length : Int) then ((upload_before.f ((rd_T25 l0_2 (wrap64 (x26_1 - 1))).f0) ((rd_T25 l0_2 (wrap64 (x26_1 - 1))).f1) ((rd_T25 l0_2 (wrap64 (x26_1 - 1))).f2) ((rd_T25 l0_2 (wrap64 (x26_1 - 1))).f3) ((rd_T25 l0_2 x26_1).f0) ((rd_T25 l0_2 x26_1).f1) ((rd_T25 l0_2 x26_1).f2) ((rd_T25 l0_2 x26_1).f3)).bind fun t207 => (upload_valid.j1 k1 x26_1 l0_2 (l0_2.length : Int) x26_1 (!t207) a0_0 l0_1 l0_2 ((rd_T25 l0_2 x26_1).f0) ((rd_T25 l0_2 x26_1).f1) ((rd_T25 l0_2 x26_1).f2) ((rd_T25 l0_2 x26_1).f3))) else (none)) else (none)) else (upload_valid.j1 k1 x26_1 l0_2 (l0_2.length : Int) x26_1 false a0_0 l0_1 l0_2 ((rd_T25 l0_2 x26_1).f0) ((rd_T25 l0_2 x26_1).f1) ((rd_T25 l0_2 x26_1).f2) ((rd_T25 l0_2 x26_1).f3)))) else (none)) else (none)) = some r := H
       have A17 := am A170
       clear A170
       replace H := it_ H
       obtain ⟨c18, H⟩ := H
       have c18b0 : (t205 == 0) = true := beq_iff_eq.mpr c18
       have c18b1 : (t205 != 0) = false := bne_eq_false_iff_eq.mpr c18
       clear c18
       (first | rw [c18b0] | (simp only [i64_w, i32_w]; rw [c18b0]) | skip)
       replace H := it_ H
       obtain ⟨c19, H⟩ := H
       have c19b0 : (((rd_T25 l0_2 x26_1).f0) == a0_0) = true := beq_iff_eq.mpr c19
       have c19b1 : (((rd_T25 l0_2 x26_1).f0) != a0_0) = false := bne_eq_false_iff_eq.mpr c19
       clear c19
       replace H := ie_ H
       obtain ⟨c20, H⟩ := H
       have c20b0 : decide (((rd_T25 l0_2 x26_1).f1) ≤ (l0_1.length : Int)) = false := decide_eq_false c20
       clear c20
       by_cases c21 : x26_1 > 0
       ·
        rw [if_pos c21] at H
        have c21b0 : decide (0 < x26_1) = true := decide_eq_true c21
        clear c21
        obtain ⟨ji22, hji22⟩ : ∃ j_ : Int, (wrap64 (x26_1 - 1)) = j_ := ⟨_, rfl⟩
        replace H : (if 0 ≤ (ji22) then (if (ji22) < (l0_2.length : Int) then ((upload_before.f ((rd_T25 l0_2 (ji22)).f0) ((rd_T25 l0_2 (ji22)).f1) ((rd_T25 l0_2 (ji22)).f2) ((rd_T25 l0_2 (ji22)).f3) ((rd_T25 l0_2 x26_1).f0) ((rd_T25 l0_2 x26_1).f1) ((rd_T25 l0_2 x26_1).f2) ((rd_T25 l0_2 x26_1).f3)).bind fun t207 => (upload_valid.j1 k1 x26_1 l0_2 (l0_2.length : Int) x26_1 (!t207) a0_0 l0_1 l0_2 ((rd_T25 l0_2 x26_1).f0) ((rd_T25 l0_2 x26_1).f1) ((rd_T25 l0_2 x26_1).f2) ((rd_T25 l0_2 x26_1).f3))) else (none)) else (none)) = some r := by first | (rw [hji22] at H; exact H) | (simp only [hji22] at H ⊢; exact H)
        (try rw [hji22] at A17)
        have hji22w : (IntKind.i64.wrap (x26_1 - 1)) = ji22 := (i64_w _).trans hji22
        replace H := it_ H
        obtain ⟨c23, H⟩ := H
        have c23b0 : decide (0 ≤ (ji22)) = true := decide_eq_true c23
        clear c23
        replace H := it_ H
        obtain ⟨c24, H⟩ := H
        have c24b0 : decide ((ji22) < (l0_2.length : Int)) = true := decide_eq_true c24
        clear c24
        replace H := Option.bind_eq_some_iff.mp H
        obtain ⟨t207, A250, H⟩ := H
        replace H : (upload_valid.j1 k1 x26_1 l0_2 (l0_2.length : Int) x26_1 (!t207) a0_0 l0_1 l0_2 ((rd_T25 l0_2 x26_1).f0) ((rd_T25 l0_2 x26_1).f1) ((rd_T25 l0_2 x26_1).f2) ((rd_T25 l0_2 x26_1).f3)) = some r := H
        have A25 := am A250
        clear A250
        have H' := am H
        clear H
        try go_wp2
        have n0_ : Aside0 (((((w14.setCell ⟨gb204, 0, none⟩ (.int .i64 ((rd_T25 l0_2 x26_1).f0))).setCell ⟨gb204, 1, none⟩ (.int .i64 ((rd_T25 l0_2 x26_1).f1))).setCell ⟨gb204, 2, none⟩ (.slice A203_2 ((rd_T25 l0_2 x26_1).f2).length c203_2)).setCell ⟨gb204, 3, none⟩ (.int .u64 ((rd_T25 l0_2 x26_1).f3))).heap[gb201]? = some (.cells #[.int .i64 a0_0, .slice A0_1 l0_1.length c0_1, .slice (some ad203) l0_2.length c0_2] 34 (0, 0))) := ⟨bf1 NB201_204.out BK201.out⟩
        have n1_ : Aside0 (((((w14.setCell ⟨gb204, 0, none⟩ (.int .i64 ((rd_T25 l0_2 x26_1).f0))).setCell ⟨gb204, 1, none⟩ (.int .i64 ((rd_T25 l0_2 x26_1).f1))).setCell ⟨gb204, 2, none⟩ (.slice A203_2 ((rd_T25 l0_2 x26_1).f2).length c203_2)).setCell ⟨gb204, 3, none⟩ (.int .u64 ((rd_T25 l0_2 x26_1).f3))).heap[gb204]? = some (.cells #[.int .i64 ((rd_T25 l0_2 x26_1).f0), .int .i64 ((rd_T25 l0_2 x26_1).f1), .slice A203_2 ((rd_T25 l0_2 x26_1).f2).length c203_2, .int .u64 ((rd_T25 l0_2 x26_1).f3)] 25 (0, 0))) := ⟨by (with_reducible repeat (first | refine blk_drewN ?_ _ | refine blk_drew ?_ | refine blk_alloc ?_ _)); refine blk_put (cs := #[.int .i64 ((rd_T25 l0_2 x26_1).f0), .int .i64 ((rd_T25 l0_2 x26_1).f1), .slice A203_2 ((rd_T25 l0_2 x26_1).f2).length c203_2, .int .u64 0]) ?_ 3 _ rfl; (with_reducible repeat (first | refine blk_drewN ?_ _ | refine blk_drew ?_ | refine blk_alloc ?_ _)); refine blk_put (cs := #[.int .i64 ((rd_T25 l0_2 x26_1).f0), .int .i64 ((rd_T25 l0_2 x26_1).f1), .slice none 0 0, .int .u64 0]) ?_ 2 _ rfl; (with_reducible repeat (first | refine blk_drewN ?_ _ | refine blk_drew ?_ | refine blk_alloc ?_ _)); refine blk_put (cs := #[.int .i64 ((rd_T25 l0_2 x26_1).f0), .int .i64 0, .slice none 0 0, .int .u64 0]) ?_ 1 _ rfl; (with_reducible repeat (first | refine blk_drewN ?_ _ | refine blk_drew ?_ | refine blk_alloc ?_ _)); refine blk_put (cs := #[.int .i64 0, .int .i64 0, .slice none 0 0, .int .u64 0]) ?_ 0 _ rfl; (with_reducible repeat (first | refine blk_drewN ?_ _ | refine blk_drew ?_ | refine blk_alloc ?_ _)); exact BK204.out⟩
        have n2_ : Aside0 (Below w.heap.size w ((((w14.setCell ⟨gb204, 0, none⟩ (.int .i64 ((rd_T25 l0_2 x26_1).f0))).setCell ⟨gb204, 1, none⟩ (.int .i64 ((rd_T25 l0_2 x26_1).f1))).setCell ⟨gb204, 2, none⟩ (.slice A203_2 ((rd_T25 l0_2 x26_1).f2).length c203_2)).setCell ⟨gb204, 3, none⟩ (.int .u64 ((rd_T25 l0_2 x26_1).f3)))) := ⟨hz2 HB.out GE201.out GE204.out⟩
        (try clear BK201)
        (try clear BK204)
        (try clear HB)
        generalize ((((w14.setCell ⟨gb204, 0, none⟩ (.int .i64 ((rd_T25 l0_2 x26_1).f0))).setCell ⟨gb204, 1, none⟩ (.int .i64 ((rd_T25 l0_2 x26_1).f1))).setCell ⟨gb204, 2, none⟩ (.slice A203_2 ((rd_T25 l0_2 x26_1).f2).length c203_2)).setCell ⟨gb204, 3, none⟩ (.int .u64 ((rd_T25 l0_2 x26_1).f3))) = w26 at n0_ n1_ n2_ ⊢
        have BK201 := n0_
        have BK204 := n1_
        have HB := n2_
        clear n0_ n1_ n2_
        replace BK201 := am (blk_drew BK201.out)
        replace BK204 := am (blk_drew BK204.out)
        replace HB := am (below_drew1 HB.out)
        have p206 : 0 ≤ ((ji22) : Int) := of_decide_eq_true az
        have q206 : (ji22) < (l0_2.length : Int) := of_decide_eq_true az
        obtain ⟨ad206, A206_2, c206_2, e206, hx206_0, hx206_1, hx206_2, hx206_3, hl206_2, hi206_2⟩ := at_T25 HR0_2.out (ji22) p206 q206
        have hw206_3 := hx206_3
        have hw206_2 := hx206_2
        have hw206_1 := hx206_1
        have hw206_0 := hx206_0
        obtain rfl : ad203 = ad206 := (by injection e206)
        replace hx206_0 := (HB.out.cell (World.block_lt_of_cell? w _ hx206_0)).trans hx206_0
        replace hx206_1 := (HB.out.cell (World.block_lt_of_cell? w _ hx206_1)).trans hx206_1
        replace hx206_2 := (HB.out.cell (World.block_lt_of_cell? w _ hx206_2)).trans hx206_2
        replace hx206_3 := (HB.out.cell (World.block_lt_of_cell? w _ hx206_3)).trans hx206_3
        have HR206_2 := am hi206_2
        have HC206_2 := am hl206_2
        clear hi206_2 hl206_2
        replace p206 := eq_true p206
        replace q206 := eq_true q206
        refine start_ (n := 33) (S := fun w' => w'.cell? ⟨gb204, 0, none⟩ = some (.int .i64 ((rd_T25 l0_2 x26_1).f0)) ∧ w'.cell? ⟨gb204, 1, none⟩ = some (.int .i64 ((rd_T25 l0_2 x26_1).f1)) ∧ w'.cell? ⟨gb204, 2, none⟩ = some (.slice A203_2 ((rd_T25 l0_2 x26_1).f2).length c203_2) ∧ w'.cell? ⟨gb204, 3, none⟩ = some (.int .u64 ((rd_T25 l0_2 x26_1).f3)) ∧ w'.cell? ⟨gb201, 0, none⟩ = some (.int .i64 a0_0) ∧ w'.cell? ⟨gb201, 1, none⟩ = some (.slice A0_1 l0_1.length c0_1) ∧ w'.cell? ⟨gb201, 2, none⟩ = some (.slice (some ad203) l0_2.length c0_2) ∧ w'.cell? (ad203.add (((ji22)).toNat * 4)) = some (.int .i64 ((rd_T25 l0_2 (ji22)).f0)) ∧ w'.cell? ⟨(ad203.add (((ji22)).toNat * 4)).block, (ad203.add (((ji22)).toNat * 4)).off + 1, none⟩ = some (.int .i64 ((rd_T25 l0_2 (ji22)).f1)) ∧ w'.cell? ⟨(ad203.add (((ji22)).toNat * 4)).block, (ad203.add (((ji22)).toNat * 4)).off + 2, none⟩ = some (.slice A206_2 ((rd_T25 l0_2 (ji22)).f2).length c206_2) ∧ w'.cell? ⟨(ad203.add (((ji22)).toNat * 4)).block, (ad203.add (((ji22)).toNat * 4)).off + 3, none⟩ = some (.int .u64 ((rd_T25 l0_2 (ji22)).f3))) (ds := []) #[false, false, false, false, false, false, false, false, false, false, false, false, false, false, false, false, false, false, false, false, false, false, false, false, false, false, false, false, false, false, false, false, false] (by kernel_rfl) rfl rfl ⟨(blk_cell BK204.out 0).trans rfl, (blk_cell BK204.out 1).trans rfl, (blk_cell BK204.out 2).trans rfl, (blk_cell BK204.out 3).trans rfl, (blk_cell BK201.out 0).trans rfl, (blk_cell BK201.out 1).trans rfl, (blk_cell BK201.out 2).trans rfl, ((HB.out.cell (World.block_lt_of_cell? w _ hw206_0)).trans hw206_0), ((HB.out.cell (World.block_lt_of_cell? w _ hw206_1)).trans hw206_1), ((HB.out.cell (World.block_lt_of_cell? w _ hw206_2)).trans hw206_2), ((HB.out.cell (World.block_lt_of_cell? w _ hw206_3)).trans hw206_3)⟩ (fun hHeld => ?_); refine with_tabW upload_valid.tab6 upload_valid.bits6 (fun HT_ HW_ => ?_)
        generalize w26.drew = w27 at BK201 BK204 HB HR206_2 hx206_0 hx206_1 hx206_2 hx206_3 hHeld ⊢
        refine tz11 0 31 HT_.out HW_.out hHeld ?_
        refine oz 1 32 HT_.out (fun K hK => ?_)
        refine goes_ Try.func37 (by kernel_rfl) rfl #[.agg #[.int .i64 ((rd_T25 l0_2 x26_1).f0), .int .i64 ((rd_T25 l0_2 x26_1).f1), .slice A203_2 ((rd_T25 l0_2 x26_1).f2).length c203_2, .int .u64 ((rd_T25 l0_2 x26_1).f3)]] (by rfl) rfl rfl lz ?_
        with_reducible refine (upload_check.calls k1 ((rd_T25 l0_2 x26_1).f0) ((rd_T25 l0_2 x26_1).f1) _ _ ((rd_T25 l0_2 x26_1).f2) ((rd_T25 l0_2 x26_1).f3) t205 _ ?side1 ?side2 A17.out).mono ?_
        (case side1 => exact cz (Kd.C_below HR203_2.out HB.out))
        (case side2 => exact HC203_2.out)
        rintro e w28 ⟨rfl, hb⟩
        refine ⟨_, rfl, ?_⟩
        replace BK201 := am (blk_below (bz BK201.out) hb)
        replace BK204 := am (blk_below (bz BK204.out) hb)
        replace HB := am (below_step (hz2 HB.out GE201.out GE204.out) hb)
        (try clear hb)
        (try clear hb2)
        (try clear hk)
        (try clear hi)
        refine hK.out _ _ ⟨(blk_cell BK204.out 0).trans rfl, (blk_cell BK204.out 1).trans rfl, (blk_cell BK204.out 2).trans rfl, (blk_cell BK204.out 3).trans rfl, (blk_cell BK201.out 0).trans rfl, (blk_cell BK201.out 1).trans rfl, (blk_cell BK201.out 2).trans rfl, ((HB.out.cell (World.block_lt_of_cell? w _ hw206_0)).trans hw206_0), ((HB.out.cell (World.block_lt_of_cell? w _ hw206_1)).trans hw206_1), ((HB.out.cell (World.block_lt_of_cell? w _ hw206_2)).trans hw206_2), ((HB.out.cell (World.block_lt_of_cell? w _ hw206_3)).trans hw206_3)⟩ (fun hHeld => ?_)
        clear hK K
        refine norm_ (a' := ?_) ?_ ?_
        rotate_left
        ·
         show Act.put _ (some 32) _ = _
         simp only [Act.put, List.setIfInBounds_toArray, List.set_cons_zero, List.set_cons_succ, i64_w, i32_w]
         rfl
        refine pz 2 33 HT_.out ?_
        refine pz 3 34 HT_.out ?_
        refine pz 4 35 HT_.out ?_
        refine pz 6 37 HT_.out ?_
        refine tz11 5 36 HT_.out HW_.out hHeld ?_
        refine tz11 7 38 HT_.out HW_.out hHeld ?_
        refine pz 8 39 HT_.out ?_
        refine pz 9 40 HT_.out ?_
        refine pz 10 41 HT_.out ?_
        refine pz 11 42 HT_.out ?_
        refine pz 13 44 HT_.out ?_
        refine tz11 12 43 HT_.out HW_.out hHeld ?_
        refine tz11 14 45 HT_.out HW_.out hHeld ?_
        refine pz 15 46 HT_.out ?_
        refine pz 16 47 HT_.out ?_
        refine pz 17 48 HT_.out ?_
        refine pz 18 49 HT_.out ?_
        refine pz 19 50 HT_.out ?_
        refine pz 20 51 HT_.out ?_
        refine pz 21 52 HT_.out ?_
        refine pz 22 53 HT_.out ?_
        refine pz 24 55 HT_.out ?_
        refine pz 25 56 HT_.out ?_
        refine tz11 23 54 HT_.out HW_.out hHeld ?_
        refine pz 26 57 HT_.out ?_
        refine tz11 27 58 HT_.out HW_.out hHeld ?_
        refine tz11 28 59 HT_.out HW_.out hHeld ?_
        refine oz 29 60 HT_.out (fun K hK => ?_)
        refine goes_ Try.func41 (by kernel_rfl) rfl #[.agg #[.int .i64 ((rd_T25 l0_2 (ji22)).f0), .int .i64 ((rd_T25 l0_2 (ji22)).f1), .slice A206_2 ((rd_T25 l0_2 (ji22)).f2).length c206_2, .int .u64 ((rd_T25 l0_2 (ji22)).f3)], .agg #[.int .i64 ((rd_T25 l0_2 x26_1).f0), .int .i64 ((rd_T25 l0_2 x26_1).f1), .slice A203_2 ((rd_T25 l0_2 x26_1).f2).length c203_2, .int .u64 ((rd_T25 l0_2 x26_1).f3)]] (by rfl) rfl rfl (by (try simp only [List.map_toArray, List.map_cons, List.map_nil]); first | done | (simp only [hji22]; rfl) | rfl | (simp only [List.length_drop, List.length_take]; rfl)) ?_
        with_reducible refine (upload_before.calls ((rd_T25 l0_2 (ji22)).f0) ((rd_T25 l0_2 (ji22)).f1) _ _ ((rd_T25 l0_2 (ji22)).f2) ((rd_T25 l0_2 (ji22)).f3) ((rd_T25 l0_2 x26_1).f0) ((rd_T25 l0_2 x26_1).f1) _ _ ((rd_T25 l0_2 x26_1).f2) ((rd_T25 l0_2 x26_1).f3) t207 _ ?side1 ?side2 ?side3 ?side4 A25.out).mono ?_
        (case side1 => exact cz (Kd.C_below HR206_2.out HB.out))
        (case side2 => exact HC206_2.out)
        (case side3 => exact cz (Kd.C_below HR203_2.out HB.out))
        (case side4 => exact HC203_2.out)
        rintro e w29 ⟨rfl, hb⟩
        refine ⟨_, rfl, ?_⟩
        replace BK201 := am (blk_below (bz BK201.out) hb)
        replace BK204 := am (blk_below (bz BK204.out) hb)
        replace HB := am (below_step (hz2 HB.out GE201.out GE204.out) hb)
        (try clear hb)
        (try clear hb2)
        (try clear hk)
        (try clear hi)
        refine hK.out _ _ ⟨(blk_cell BK204.out 0).trans rfl, (blk_cell BK204.out 1).trans rfl, (blk_cell BK204.out 2).trans rfl, (blk_cell BK204.out 3).trans rfl, (blk_cell BK201.out 0).trans rfl, (blk_cell BK201.out 1).trans rfl, (blk_cell BK201.out 2).trans rfl, ((HB.out.cell (World.block_lt_of_cell? w _ hw206_0)).trans hw206_0), ((HB.out.cell (World.block_lt_of_cell? w _ hw206_1)).trans hw206_1), ((HB.out.cell (World.block_lt_of_cell? w _ hw206_2)).trans hw206_2), ((HB.out.cell (World.block_lt_of_cell? w _ hw206_3)).trans hw206_3)⟩ (fun hHeld => ?_)
        clear hK K
        refine norm_ (a' := ?_) ?_ ?_
        rotate_left
        ·
         show Act.put _ (some 60) _ = _
         simp only [Act.put, List.setIfInBounds_toArray, List.set_cons_zero, List.set_cons_succ, i64_w, i32_w]
         rfl
        refine pz 30 61 HT_.out ?_
        refine pz 31 62 HT_.out ?_
        refine pz 32 63 HT_.out ?_
        refine done_ (done_of HT_.out (by kernel_rfl)) ?_
        try go_wp2
        go_meet
        case rel => exact ⟨_, (!t207), (by first | rfl | (simp; done) | (simp [*]; done)), H', ⟨by have := HK1.out; first | omega | exact Nat.le_refl _⟩, ⟨by (with_reducible repeat (first | refine blk_drewN ?_ _ | refine blk_drew ?_ | refine blk_alloc ?_ _)); exact BK201.out⟩, ⟨by (with_reducible repeat (first | refine blk_drewN ?_ _ | refine blk_drew ?_ | refine blk_alloc ?_ _)); exact BK204.out⟩, ⟨hz2 HB.out GE201.out GE204.out⟩⟩
       ·
        rw [if_neg c21] at H
        have c21b0 : decide (0 < x26_1) = false := decide_eq_false c21
        clear c21
        have H' := am H
        clear H
        try go_wp2
        have n0_ : Aside0 (((((w14.setCell ⟨gb204, 0, none⟩ (.int .i64 ((rd_T25 l0_2 x26_1).f0))).setCell ⟨gb204, 1, none⟩ (.int .i64 ((rd_T25 l0_2 x26_1).f1))).setCell ⟨gb204, 2, none⟩ (.slice A203_2 ((rd_T25 l0_2 x26_1).f2).length c203_2)).setCell ⟨gb204, 3, none⟩ (.int .u64 ((rd_T25 l0_2 x26_1).f3))).heap[gb201]? = some (.cells #[.int .i64 a0_0, .slice A0_1 l0_1.length c0_1, .slice (some ad203) l0_2.length c0_2] 34 (0, 0))) := ⟨bf1 NB201_204.out BK201.out⟩
        have n1_ : Aside0 (((((w14.setCell ⟨gb204, 0, none⟩ (.int .i64 ((rd_T25 l0_2 x26_1).f0))).setCell ⟨gb204, 1, none⟩ (.int .i64 ((rd_T25 l0_2 x26_1).f1))).setCell ⟨gb204, 2, none⟩ (.slice A203_2 ((rd_T25 l0_2 x26_1).f2).length c203_2)).setCell ⟨gb204, 3, none⟩ (.int .u64 ((rd_T25 l0_2 x26_1).f3))).heap[gb204]? = some (.cells #[.int .i64 ((rd_T25 l0_2 x26_1).f0), .int .i64 ((rd_T25 l0_2 x26_1).f1), .slice A203_2 ((rd_T25 l0_2 x26_1).f2).length c203_2, .int .u64 ((rd_T25 l0_2 x26_1).f3)] 25 (0, 0))) := ⟨by (with_reducible repeat (first | refine blk_drewN ?_ _ | refine blk_drew ?_ | refine blk_alloc ?_ _)); refine blk_put (cs := #[.int .i64 ((rd_T25 l0_2 x26_1).f0), .int .i64 ((rd_T25 l0_2 x26_1).f1), .slice A203_2 ((rd_T25 l0_2 x26_1).f2).length c203_2, .int .u64 0]) ?_ 3 _ rfl; (with_reducible repeat (first | refine blk_drewN ?_ _ | refine blk_drew ?_ | refine blk_alloc ?_ _)); refine blk_put (cs := #[.int .i64 ((rd_T25 l0_2 x26_1).f0), .int .i64 ((rd_T25 l0_2 x26_1).f1), .slice none 0 0, .int .u64 0]) ?_ 2 _ rfl; (with_reducible repeat (first | refine blk_drewN ?_ _ | refine blk_drew ?_ | refine blk_alloc ?_ _)); refine blk_put (cs := #[.int .i64 ((rd_T25 l0_2 x26_1).f0), .int .i64 0, .slice none 0 0, .int .u64 0]) ?_ 1 _ rfl; (with_reducible repeat (first | refine blk_drewN ?_ _ | refine blk_drew ?_ | refine blk_alloc ?_ _)); refine blk_put (cs := #[.int .i64 0, .int .i64 0, .slice none 0 0, .int .u64 0]) ?_ 0 _ rfl; (with_reducible repeat (first | refine blk_drewN ?_ _ | refine blk_drew ?_ | refine blk_alloc ?_ _)); exact BK204.out⟩
        have n2_ : Aside0 (Below w.heap.size w ((((w14.setCell ⟨gb204, 0, none⟩ (.int .i64 ((rd_T25 l0_2 x26_1).f0))).setCell ⟨gb204, 1, none⟩ (.int .i64 ((rd_T25 l0_2 x26_1).f1))).setCell ⟨gb204, 2, none⟩ (.slice A203_2 ((rd_T25 l0_2 x26_1).f2).length c203_2)).setCell ⟨gb204, 3, none⟩ (.int .u64 ((rd_T25 l0_2 x26_1).f3)))) := ⟨hz2 HB.out GE201.out GE204.out⟩
        (try clear BK201)
        (try clear BK204)
        (try clear HB)
        generalize ((((w14.setCell ⟨gb204, 0, none⟩ (.int .i64 ((rd_T25 l0_2 x26_1).f0))).setCell ⟨gb204, 1, none⟩ (.int .i64 ((rd_T25 l0_2 x26_1).f1))).setCell ⟨gb204, 2, none⟩ (.slice A203_2 ((rd_T25 l0_2 x26_1).f2).length c203_2)).setCell ⟨gb204, 3, none⟩ (.int .u64 ((rd_T25 l0_2 x26_1).f3))) = w30 at n0_ n1_ n2_ ⊢
        have BK201 := n0_
        have BK204 := n1_
        have HB := n2_
        clear n0_ n1_ n2_
        replace BK201 := am (blk_drew BK201.out)
        replace BK204 := am (blk_drew BK204.out)
        replace HB := am (below_drew1 HB.out)
        refine start_ (n := 33) (S := fun w' => w'.cell? ⟨gb204, 0, none⟩ = some (.int .i64 ((rd_T25 l0_2 x26_1).f0)) ∧ w'.cell? ⟨gb204, 1, none⟩ = some (.int .i64 ((rd_T25 l0_2 x26_1).f1)) ∧ w'.cell? ⟨gb204, 2, none⟩ = some (.slice A203_2 ((rd_T25 l0_2 x26_1).f2).length c203_2) ∧ w'.cell? ⟨gb204, 3, none⟩ = some (.int .u64 ((rd_T25 l0_2 x26_1).f3)) ∧ w'.cell? ⟨gb201, 0, none⟩ = some (.int .i64 a0_0) ∧ w'.cell? ⟨gb201, 1, none⟩ = some (.slice A0_1 l0_1.length c0_1) ∧ w'.cell? ⟨gb201, 2, none⟩ = some (.slice (some ad203) l0_2.length c0_2)) (ds := []) #[false, false, false, false, false, false, false, false, false, false, false, false, false, false, false, false, false, false, false, false, false, false, false, false, false, false, false, false, false, false, false, false, false] (by kernel_rfl) rfl rfl ⟨(blk_cell BK204.out 0).trans rfl, (blk_cell BK204.out 1).trans rfl, (blk_cell BK204.out 2).trans rfl, (blk_cell BK204.out 3).trans rfl, (blk_cell BK201.out 0).trans rfl, (blk_cell BK201.out 1).trans rfl, (blk_cell BK201.out 2).trans rfl⟩ (fun hHeld => ?_); refine with_tabW upload_valid.tab6 upload_valid.bits6 (fun HT_ HW_ => ?_)
        generalize w30.drew = w31 at BK201 BK204 HB hHeld ⊢
        refine tz7 0 31 HT_.out HW_.out hHeld ?_
        refine oz 1 32 HT_.out (fun K hK => ?_)
        refine goes_ Try.func37 (by kernel_rfl) rfl #[.agg #[.int .i64 ((rd_T25 l0_2 x26_1).f0), .int .i64 ((rd_T25 l0_2 x26_1).f1), .slice A203_2 ((rd_T25 l0_2 x26_1).f2).length c203_2, .int .u64 ((rd_T25 l0_2 x26_1).f3)]] (by rfl) rfl rfl lz ?_
        with_reducible refine (upload_check.calls k1 ((rd_T25 l0_2 x26_1).f0) ((rd_T25 l0_2 x26_1).f1) _ _ ((rd_T25 l0_2 x26_1).f2) ((rd_T25 l0_2 x26_1).f3) t205 _ ?side1 ?side2 A17.out).mono ?_
        (case side1 => exact cz (Kd.C_below HR203_2.out HB.out))
        (case side2 => exact HC203_2.out)
        rintro e w32 ⟨rfl, hb⟩
        refine ⟨_, rfl, ?_⟩
        replace BK201 := am (blk_below (bz BK201.out) hb)
        replace BK204 := am (blk_below (bz BK204.out) hb)
        replace HB := am (below_step (hz2 HB.out GE201.out GE204.out) hb)
        (try clear hb)
        (try clear hb2)
        (try clear hk)
        (try clear hi)
        refine hK.out _ _ ⟨(blk_cell BK204.out 0).trans rfl, (blk_cell BK204.out 1).trans rfl, (blk_cell BK204.out 2).trans rfl, (blk_cell BK204.out 3).trans rfl, (blk_cell BK201.out 0).trans rfl, (blk_cell BK201.out 1).trans rfl, (blk_cell BK201.out 2).trans rfl⟩ (fun hHeld => ?_)
        clear hK K
        refine norm_ (a' := ?_) ?_ ?_
        rotate_left
        ·
         show Act.put _ (some 32) _ = _
         simp only [Act.put, List.setIfInBounds_toArray, List.set_cons_zero, List.set_cons_succ, i64_w, i32_w]
         rfl
        refine pz 2 33 HT_.out ?_
        refine pz 3 34 HT_.out ?_
        refine pz 4 35 HT_.out ?_
        refine pz 6 37 HT_.out ?_
        refine tz7 5 36 HT_.out HW_.out hHeld ?_
        refine tz7 7 38 HT_.out HW_.out hHeld ?_
        refine pz 8 39 HT_.out ?_
        refine pz 9 40 HT_.out ?_
        refine pz 10 41 HT_.out ?_
        refine pz 11 42 HT_.out ?_
        refine pz 13 44 HT_.out ?_
        refine tz7 12 43 HT_.out HW_.out hHeld ?_
        refine tz7 14 45 HT_.out HW_.out hHeld ?_
        refine pz 15 46 HT_.out ?_
        refine pz 16 47 HT_.out ?_
        refine pz 17 48 HT_.out ?_
        refine pz 18 49 HT_.out ?_
        refine pz 19 50 HT_.out ?_
        refine pz 20 51 HT_.out ?_
        refine pz 21 52 HT_.out ?_
        refine pzu 22 53 HT_.out ?_
        refine pzu 23 54 HT_.out ?_
        refine pzu 24 55 HT_.out ?_
        refine pzu 25 56 HT_.out ?_
        refine pzu 26 57 HT_.out ?_
        refine pzu 27 58 HT_.out ?_
        refine pzu 28 59 HT_.out ?_
        refine pzu 29 60 HT_.out ?_
        refine pzu 30 61 HT_.out ?_
        refine pz 31 62 HT_.out ?_
        refine pz 32 63 HT_.out ?_
        refine done_ (done_of HT_.out (by kernel_rfl)) ?_
        try go_wp2
        go_meet
        case rel => exact ⟨_, (false), (by first | rfl | (simp; done) | (simp [*]; done)), H', ⟨by have := HK1.out; first | omega | exact Nat.le_refl _⟩, ⟨by (with_reducible repeat (first | refine blk_drewN ?_ _ | refine blk_drew ?_ | refine blk_alloc ?_ _)); exact BK201.out⟩, ⟨by (with_reducible repeat (first | refine blk_drewN ?_ _ | refine blk_drew ?_ | refine blk_alloc ?_ _)); exact BK204.out⟩, ⟨hz2 HB.out GE201.out GE204.out⟩⟩
      case rest =>
       clear HC13
       try clear c1
       try clear c2
       try clear p2
       try clear c3
       try clear c4
       try clear c18
       try clear c19
       try clear c20
       try clear c21
       try clear c21b0
       try clear c23
       try clear c24
       obtain ⟨kq, x63_12, rfl, HA, HJ12, BK201, BK204, HB⟩ := hcut
       cases kq with
       | zero => exact absurd HA.out (by simp [upload_valid.j1])
       | succ kj12 =>
        have H := HA.out
        clear HA
        simp only [upload_valid.j1] at H
        by_cases c33 : x63_12 = true
        ·
         subst c33
         have H1 : (none) = some r := by rw [if_pos rfl] at H; exact H
         clear H
         have H := H1
         clear H1
         exact absurd H (by simp)
        ·
         replace c33 := Bool.eq_false_iff.mpr c33
         subst c33
         have H1 : (if 0 ≤ x26_1 then (if x26_1 ≤ (l0_2.length : Int) then ((some (l0_2.take (x26_1 : Int).toNat : List (S25))).bind fun y208 => (upload_valid.l1 kj12 l0_2 (l0_2.length : Int) x26_1 y208 (y208.length : Int) 0 a0_0 l0_1 l0_2 ((rd_T25 l0_2 x26_1).f0) ((rd_T25 l0_2 x26_1).f1) ((rd_T25 l0_2 x26_1).f2) ((rd_T25 l0_2 x26_1).f3))) else (none)) else (none)) = some r := by rw [if_neg (show ¬ (false = true) by decide)] at H; exact H
         clear H
         have H := H1
         clear H1
         replace H := it_ H
         obtain ⟨c34, H⟩ := H
         have c34b0 := eq_true c34
         have c34b1 : decide (0 ≤ x26_1) = true := decide_eq_true c34
         clear c34
         replace H := it_ H
         obtain ⟨c35, H⟩ := H
         have c35b0 := eq_true c35
         have c35b1 : decide (x26_1 ≤ (l0_2.length : Int)) = true := decide_eq_true c35
         clear c35
         obtain ⟨y208, hy208⟩ : ∃ y_ : List (S25), y_ = (l0_2.take (x26_1 : Int).toNat) := ⟨_, rfl⟩
         replace H : (upload_valid.l1 kj12 l0_2 (l0_2.length : Int) x26_1 y208 (y208.length : Int) 0 a0_0 l0_1 l0_2 ((rd_T25 l0_2 x26_1).f0) ((rd_T25 l0_2 x26_1).f1) ((rd_T25 l0_2 x26_1).f2) ((rd_T25 l0_2 x26_1).f3)) = some r := by first | (rw [hy208]; with_reducible exact H) | (have H2_ := (Option.bind_some _ _).symm.trans H; rw [hy208]; with_reducible exact H2_) | (have H2_ := (Option.bind_some _ _).symm.trans H; with_reducible exact H2_) | with_reducible exact H | (rw [hy208]; exact H) | exact H
         have Ny208 := am hy208
         clear hy208
         have H' := am H
         clear H
         have hnb36 := NB201_204.out
         have hnc36 := NB204_201.out
         have hcz37_0 : wc.cell? ⟨gb201, 0, none⟩ = some (.int .i64 a0_0) := (blk_cell BK201.out 0).trans rfl
         have hcz37_1 : wc.cell? ⟨gb201, 1, none⟩ = some (.slice A0_1 l0_1.length c0_1) := (blk_cell BK201.out 1).trans rfl
         have hcz37_2 : wc.cell? ⟨gb201, 2, none⟩ = some (.slice (some ad203) l0_2.length c0_2) := (blk_cell BK201.out 2).trans rfl
         have hfz37_0 := blk_frozen BK201.out 0
         have hfz37_1 := blk_frozen BK201.out 1
         have hfz37_2 := blk_frozen BK201.out 2
         have q38 : (x26_1 : Int) ≤ ((l0_2.length : Int) : Int) := of_decide_eq_true az
         obtain ⟨i038, hi038, _, hsz38, _⟩ := info_parts info25
         have hroom38 : l0_2.length ≤ c0_2 := HC0_2.out
         have hC38 : Kd.C k25 _ (some ad203) l0_2.length l0_2 := HR0_2.out
         have hcut38 := cut_to (P := Try.prog) 30 25 .i64 Try.underlying30 hi038 (some ad203) l0_2.length c0_2 x26_1 (of_decide_eq_true az) q38 hroom38
         have hr38 := Kd.C_take (m := (x26_1 : Int).toNat) hC38 (by omega)
         have hy38 : y208.length = (x26_1 : Int).toNat := (by rw [Ny208.out, List.length_take]; omega)
         rw [← Ny208.out] at hr38
         rw [← hy38] at hcut38
         have HR211 := am hr38
         have HC211 := am (show y208.length ≤ c0_2 from by omega)
         clear hr38 hC38 hroom38 hi038 hsz38
         have KY38 := am hy38
         clear hy38
         replace q38 := eq_true q38
         go_wp2
         go_loopg [69] kj12 (fun kq v69 w' => ∃ (x69_3 : Int), v69 = .int .i64 x69_3 ∧ Aside0 (upload_valid.l1 kq l0_2 (l0_2.length : Int) x26_1 y208 (y208.length : Int) x69_3 a0_0 l0_1 l0_2 ((rd_T25 l0_2 x26_1).f0) ((rd_T25 l0_2 x26_1).f1) ((rd_T25 l0_2 x26_1).f2) ((rd_T25 l0_2 x26_1).f3) = some r) ∧ Aside0 (kq ≤ kj12) ∧ Aside0 (w'.heap[gb201]? = some (.cells #[.int .i64 a0_0, (.slice A0_1 l0_1.length c0_1), (.slice (some ad203) l0_2.length c0_2)] 34 (0, 0))) ∧ Aside0 (w'.heap[gb204]? = some (.cells #[.int .i64 ((rd_T25 l0_2 x26_1).f0), .int .i64 ((rd_T25 l0_2 x26_1).f1), (.slice A203_2 ((rd_T25 l0_2 x26_1).f2).length c203_2), .int .u64 ((rd_T25 l0_2 x26_1).f3)] 25 (0, 0))) ∧ Aside0 (Below w.heap.size w w'))
         case atStart => exact ⟨(0), (by first | rfl | (simp; done) | (simp [*]; done)), H', ⟨Nat.le_refl _⟩, ⟨by (with_reducible repeat (first | refine blk_drewN ?_ _ | refine blk_drew ?_ | refine blk_alloc ?_ _)); exact BK201.out⟩, ⟨by (with_reducible repeat (first | refine blk_drewN ?_ _ | refine blk_drew ?_ | refine blk_alloc ?_ _)); exact BK204.out⟩, ⟨hz2 HB.out GE201.out GE204.out⟩⟩
         case round =>
          clear H'
          try clear c1
          try clear c2
          try clear p2
          try clear c3
          try clear q3
          try clear c4
          try clear c18
          try clear c19
          try clear c20
          try clear c21
          try clear c21b0
          try clear c23
          try clear c24
          try clear c33
          try clear c34
          try clear c34b0
          try clear c34b1
          try clear c35
          try clear c35b0
          try clear c35b1
          try clear c36
          try clear c37
          try clear q38
          try clear hcz37_0
          try clear hcz37_1
          try clear hcz37_2
          try clear hfz37_0
          try clear hfz37_1
          try clear hfz37_2
          try clear p2
          try clear q38
          obtain ⟨x69_3, rfl, HA, HK3, BK201, BK204, HB⟩ := hrel
          cases gk with
          | zero => exact absurd HA.out (by simp [upload_valid.l1])
          | succ k3 =>
           have H := HA.out
           clear HA
           simp only [upload_valid.l1] at H
           by_cases c39 : x69_3 < (y208.length : Int)
           ·
            rw [if_pos c39] at H
            have c39b0 : decide (x69_3 < (y208.length : Int)) = true := decide_eq_true c39
            clear c39
            replace H := it_ H
            obtain ⟨c40, H⟩ := H
            have c40b0 : decide (0 ≤ x69_3) = true := decide_eq_true c40
            clear c40
            replace H := it_ H
            obtain ⟨c41, H⟩ := H
            have c41b0 : decide (x69_3 < (y208.length : Int)) = true := decide_eq_true c41
            clear c41
            replace H := Option.bind_eq_some_iff.mp H
            obtain ⟨t214, A420, H⟩ := H
            replace H : (if t214 = true then (upload_valid.l1 k3 l0_2 (l0_2.length : Int) x26_1 y208 (y208.length : Int) (wrap64 (x69_3 + 1)) a0_0 l0_1 l0_2 ((rd_T25 l0_2 x26_1).f0) ((rd_T25 l0_2 x26_1).f1) ((rd_T25 l0_2 x26_1).f2) ((rd_T25 l0_2 x26_1).f3)) else (none)) = some r := H
            have A42 := am A420
            clear A420
            by_cases c43 : t214 = true
            ·
             subst c43
             have H1 : (upload_valid.l1 k3 l0_2 (l0_2.length : Int) x26_1 y208 (y208.length : Int) (wrap64 (x69_3 + 1)) a0_0 l0_1 l0_2 ((rd_T25 l0_2 x26_1).f0) ((rd_T25 l0_2 x26_1).f1) ((rd_T25 l0_2 x26_1).f2) ((rd_T25 l0_2 x26_1).f3)) = some r := by rw [if_pos rfl] at H; exact H
             clear H
             have H := H1
             clear H1
             have H' := am H
             clear H
             have p212 : 0 ≤ (x69_3 : Int) := of_decide_eq_true az
             have q212 : x69_3 < (y208.length : Int) := of_decide_eq_true az
             obtain ⟨ad212, A212_2, c212_2, e212, hx212_0, hx212_1, hx212_2, hx212_3, hl212_2, hi212_2⟩ := at_T25 HR211.out x69_3 p212 q212
             obtain rfl : ad203 = ad212 := (by injection e212)
             replace hx212_0 := (HB.out.cell (World.block_lt_of_cell? w _ hx212_0)).trans hx212_0
             replace hx212_1 := (HB.out.cell (World.block_lt_of_cell? w _ hx212_1)).trans hx212_1
             replace hx212_2 := (HB.out.cell (World.block_lt_of_cell? w _ hx212_2)).trans hx212_2
             replace hx212_3 := (HB.out.cell (World.block_lt_of_cell? w _ hx212_3)).trans hx212_3
             have HR212_2 := am hi212_2
             have HC212_2 := am hl212_2
             clear hi212_2 hl212_2
             replace p212 := eq_true p212
             replace q212 := eq_true q212
             go_wp2_with (first | ((with_reducible refine gate_dst (N := 6) rfl ?_); (try (refine gate_guard (by rfl) ?_; dsimp only)); refine box_event ?hg (N := 6) ?hd (cs := #[.int .i64 0, .int .i64 0, .slice none 0 0, .int .u64 0]) (t := 25) ?hr ?_; (case hd => rfl); (case hg => rfl); (case hr => exact gz); intro gb213 hg w44 hbox hb; have BK213 := am (hbox); have GW213 := am ((bs hg (hz2 HB.out GE201.out GE204.out) : w.heap.size ≤ gb213)); have GE213 := am ((bs hg (hz2 HB.out GE201.out GE204.out) : w.heap.size ≤ gb213)); replace HB := am (below_step (hz2 HB.out GE201.out GE204.out) hb); have NB201_213 := am ((nl hg (bz BK201.out) : gb201 ≠ gb213)); have NB213_201 := am ((ng hg (bz BK201.out) : gb213 ≠ gb201)); replace BK201 := am (blk_below (bz BK201.out) hb); have NB204_213 := am ((nl hg (bz BK204.out) : gb204 ≠ gb213)); have NB213_204 := am ((ng hg (bz BK204.out) : gb213 ≠ gb204)); replace BK204 := am (blk_below (bz BK204.out) hb); clear hb hbox hg; have hnb45 := NB213_201.out; have hnc45 := NB201_213.out; have hnb46 := NB213_204.out; have hnc46 := NB204_213.out; obtain ⟨hcz47_0, hcz47_1, hcz47_2, hcz47_3⟩ := cs4 BK213.out; obtain ⟨hfz47_0, hfz47_1, hfz47_2, hfz47_3⟩ := fs4 BK213.out; have hnb48 := NB204_201.out; have hnc48 := NB201_204.out; obtain ⟨hcz49_0, hcz49_1, hcz49_2, hcz49_3⟩ := cs4 BK204.out; obtain ⟨hfz49_0, hfz49_1, hfz49_2, hfz49_3⟩ := fs4 BK204.out) | ((with_reducible refine gate_callee (f := 52) rfl ?_); refine goesL_ (some 81) rfl rfl Try.func52 (by kernel_rfl) rfl #[.slice A203_2 ((rd_T25 l0_2 x26_1).f2).length c203_2, .int .i64 ((rd_T25 l0_2 x26_1).f1), .slice A212_2 ((rd_T25 y208 x69_3).f2).length c212_2, .int .i64 ((rd_T25 y208 x69_3).f1)] rfl lz ?_; (with_reducible refine (upload_agree.calls _ _ ((rd_T25 l0_2 x26_1).f2) ((rd_T25 l0_2 x26_1).f1) _ _ ((rd_T25 y208 x69_3).f2) ((rd_T25 y208 x69_3).f1) true _ ?side1 ?side2 ?side3 ?side4 A42.out).mono ?_); (case side1 => exact Kd.C_below HR203_2.out (hz3 HB.out GE201.out GE204.out GE213.out)); (case side2 => exact HC203_2.out); (case side3 => exact Kd.C_below HR212_2.out (hz3 HB.out GE201.out GE204.out GE213.out)); (case side4 => exact HC212_2.out); rintro e w50 ⟨rfl, hb⟩; refine ⟨_, rfl, ?_⟩; replace BK201 := am (blk_below (bf1 NB201_213.out BK201.out) hb); replace BK204 := am (blk_below (bf1 NB204_213.out BK204.out) hb); replace BK213 := am (blk_below (g := gb213) (o := .cells #[.int .i64 ((rd_T25 y208 x69_3).f0), .int .i64 ((rd_T25 y208 x69_3).f1), .slice A212_2 ((rd_T25 y208 x69_3).f2).length c212_2, .int .u64 ((rd_T25 y208 x69_3).f3)] 25 (0, 0)) (by (with_reducible repeat (first | refine blk_drewN ?_ _ | refine blk_drew ?_ | refine blk_alloc ?_ _)); refine blk_put (cs := #[.int .i64 ((rd_T25 y208 x69_3).f0), .int .i64 ((rd_T25 y208 x69_3).f1), .slice A212_2 ((rd_T25 y208 x69_3).f2).length c212_2, .int .u64 0]) ?_ 3 _ rfl; (with_reducible repeat (first | refine blk_drewN ?_ _ | refine blk_drew ?_ | refine blk_alloc ?_ _)); refine blk_put (cs := #[.int .i64 ((rd_T25 y208 x69_3).f0), .int .i64 ((rd_T25 y208 x69_3).f1), .slice none 0 0, .int .u64 0]) ?_ 2 _ rfl; (with_reducible repeat (first | refine blk_drewN ?_ _ | refine blk_drew ?_ | refine blk_alloc ?_ _)); refine blk_put (cs := #[.int .i64 ((rd_T25 y208 x69_3).f0), .int .i64 0, .slice none 0 0, .int .u64 0]) ?_ 1 _ rfl; (with_reducible repeat (first | refine blk_drewN ?_ _ | refine blk_drew ?_ | refine blk_alloc ?_ _)); refine blk_put (cs := #[.int .i64 0, .int .i64 0, .slice none 0 0, .int .u64 0]) ?_ 0 _ rfl; (with_reducible repeat (first | refine blk_drewN ?_ _ | refine blk_drew ?_ | refine blk_alloc ?_ _)); exact BK213.out) hb); replace HB := am (below_step (hz3 HB.out GE201.out GE204.out GE213.out) hb); (try clear hb); (try clear hb2); (try clear hk); (try clear hi)))
             go_roundg k3
             case measure => have := HK1.out; have := HJ12.out; have := HK3.out; omega
             case rel => exact ⟨(wrap64 (x69_3 + 1)), (by first | rfl | (simp; done) | (simp [*]; done)), H', ⟨by have := HK1.out; have := HJ12.out; have := HK3.out; omega⟩, ⟨by (with_reducible repeat (first | refine blk_drewN ?_ _ | refine blk_drew ?_ | refine blk_alloc ?_ _)); exact BK201.out⟩, ⟨by (with_reducible repeat (first | refine blk_drewN ?_ _ | refine blk_drew ?_ | refine blk_alloc ?_ _)); exact BK204.out⟩, ⟨hz3 HB.out GE201.out GE204.out GE213.out⟩⟩
            ·
             replace c43 := Bool.eq_false_iff.mpr c43
             subst c43
             have H1 : (none) = some r := by rw [if_neg (show ¬ (false = true) by decide)] at H; exact H
             clear H
             have H := H1
             clear H1
             exact absurd H (by simp)
           ·
            rw [if_neg c39] at H
            have c39b0 : decide (x69_3 < (y208.length : Int)) = false := decide_eq_false c39
            clear c39
            have H' := am H
            clear H
            go_wp2
            go_roundg k3
            case measure => have := HK1.out; have := HJ12.out; have := HK3.out; omega
            case rel => exact ⟨(wrap64 (x26_1 + 1)), (by first | rfl | (simp; done) | (simp [*]; done)), H', ⟨by have := HK1.out; have := HJ12.out; have := HK3.out; omega⟩, ⟨by (with_reducible repeat (first | refine blk_drewN ?_ _ | refine blk_drew ?_ | refine blk_alloc ?_ _)); exact BK201.out⟩, ⟨hz2 HB.out GE201.out GE204.out⟩⟩
     ·
      rw [if_neg c10] at H
      have c10b0 : decide (x26_1 < (l0_2.length : Int)) = false := decide_eq_false c10
      clear c10
      obtain rfl := Option.some.inj H
      go_wp2
      go_ret
      exact ⟨ez, hz1 HB.out GE201.out⟩
 ·
  replace c3 := Bool.eq_false_iff.mpr c3
  subst c3
  have H1 : (none) = some r := by rw [if_neg (show ¬ (false = true) by decide)] at H; exact H
  clear H
  have H := H1
  clear H1
  exact absurd H (by simp)

-- NOT PRINTED: function 54 (api_Packet_54)

-- NOT PRINTED: function 39 (api_Packet_39)

def upload_conflict_any.l0 : Nat → List S25 → Int → Int → List Int → Int → Int → Option Bool
 | 0, _, _, _, _, _, _ => none
 | k + 1, l0, a1_0, a1_1, l1_2, a1_3, i => if i < (l0.length : Int) then (if 0 ≤ i then ((upload_agree.f ((rd_T25 l0 i).f2) ((rd_T25 l0 i).f1) l1_2 a1_1).bind fun b => (if b = true then (upload_conflict_any.l0 k l0 a1_0 a1_1 l1_2 a1_3 (wrap64 (i + 1))) else (some true))) else none) else (some false)
def upload_conflict_any.f (k : Nat) (l0 : List S25) (a1_0 : Int) (a1_1 : Int) (l1_2 : List Int) (a1_3 : Int) : Option Bool := upload_conflict_any.l0 k l0 a1_0 a1_1 l1_2 a1_3 0
theorem upload_conflict_any.mono_l : ∀ k, (∀ y0 y1 y2 y3 y4 y5, LeO (upload_conflict_any.l0 k y0 y1 y2 y3 y4 y5) (upload_conflict_any.l0 (k + 1) y0 y1 y2 y3 y4 y5))
 | 0 => fun _ _ _ _ _ _ r h => by simp [upload_conflict_any.l0] at h
 | k + 1 => by
  have ih0 := upload_conflict_any.mono_l k
  intro y0 y1 y2 y3 y4 y5
  unfold upload_conflict_any.l0
  repeat' first
   | (with_reducible exact ih0 _ _ _ _ _ _)
   | (with_reducible exact LeO.refl _)
   | (with_reducible exact LeO.none _)
   | (with_reducible refine LeO.ite ?_ ?_)
   | (with_reducible refine LeO.bind ?_ (fun _ => ?_))
theorem upload_conflict_any.mono : ∀ a0 a1 a2 a3 a4 k, LeO (upload_conflict_any.f k a0 a1 a2 a3 a4) (upload_conflict_any.f (k + 1) a0 a1 a2 a3 a4) := by
 intro a0 a1 a2 a3 a4 k
 exact upload_conflict_any.mono_l k _ _ _ _ _ _
set_option maxHeartbeats 8000000 in
set_option maxRecDepth 100000 in
theorem upload_conflict_any.one (q0 q1 : Int) (Aq : Option Addr) (cq : Nat) (lq : List Int) (q3 : Int) (a1_0 : Int) (a1_1 : Int) (A1_2 : Option Addr) (c1_2 : Nat) (l1_2 : List Int) (a1_3 : Int) (r : Bool) (w : World) {g : Nat} (hrq : Kd.C (Kd.int .u8) w Aq lq.length lq) (hcq : lq.length ≤ cq) (hr1_2 : Kd.C (Kd.int .u8) w A1_2 l1_2.length l1_2) (hc1_2 : l1_2.length ≤ c1_2) (hbox : w.heap[g]? = some (.cells #[.int .i64 a1_0, .int .i64 a1_1, .slice A1_2 l1_2.length c1_2, .int .u64 a1_3] 25 (0, 0))) (h : upload_agree.f lq q1 l1_2 a1_1 = some r) :
  Calls Try.prog 53 #[.agg #[.int .i64 q0, .int .i64 q1, .slice Aq lq.length cq, .int .u64 q3], .pointer (some ⟨g, 0, none⟩)] w fun e w' => e = .returned (.bool (!r)) ∧ Below w.heap.size w w' := by
 have hu25 := Try.underlying25
 have HRq := am hrq
 have HR1_2 := am hr1_2
 have BKp := am hbox
 have A3 := am h
 clear hrq hr1_2 hbox h
 have HB := am (Below.refl w.heap.size w)
 go_enter Try.func53, Try.ntmps53
 go_wp2_with (first | ((with_reducible refine gate_dst (N := 2) rfl ?_); refine box_event ?hg (N := 2) ?hd (cs := #[.int .i64 q0, .int .i64 q1, .slice Aq lq.length cq, .int .u64 q3]) (t := 25) ?hr ?_; (case hd => rfl); (case hg => rfl); (case hr => exact gz); intro gb hg w6 hbox hb; have n0_ := am (blk_below (g := g) (o := .cells #[.int .i64 a1_0, .int .i64 a1_1, .slice A1_2 l1_2.length c1_2, .int .u64 a1_3] 25 (0, 0)) BKp.out hb); have n1_ := am (hbox); have n2_ := am (below_step HB.out hb); clear BKp HB; have BKp := n0_; have BKq := n1_; have HB := n2_; clear n0_ n1_ n2_; clear hb hbox hg; have hcp0 : w6.cell? ⟨g, 1, none⟩ = some (.int .i64 a1_1) := (blk_cell BKp.out 1).trans rfl; have hcp1 : w6.cell? ⟨g, 2, none⟩ = some (.slice A1_2 l1_2.length c1_2) := (blk_cell BKp.out 2).trans rfl; have hcq0 : w6.cell? ⟨gb, 1, none⟩ = some (.int .i64 q1) := (blk_cell BKq.out 1).trans rfl; have hcq1 : w6.cell? ⟨gb, 2, none⟩ = some (.slice Aq lq.length cq) := (blk_cell BKq.out 2).trans rfl) | ((with_reducible refine gate_callee (f := 52) rfl ?_); refine goesL_ (some 12) rfl rfl Try.func52 (by kernel_rfl) rfl #[.slice Aq lq.length cq, .int .i64 q1, .slice A1_2 l1_2.length c1_2, .int .i64 a1_1] rfl (by (try simp only [List.map_toArray, List.map_cons, List.map_nil]); first | done | rfl) ?_; (with_reducible refine (upload_agree.calls _ _ lq q1 _ _ l1_2 a1_1 r _ ?side1 hcq ?side3 hc1_2 A3.out).mono ?_); (case side1 => exact Kd.C_below HRq.out HB.out); (case side3 => exact Kd.C_below HR1_2.out HB.out); rintro e w11 ⟨rfl, hb⟩; refine ⟨_, rfl, ?_⟩; have n2_ := am (below_step HB.out hb); clear HB; have HB := n2_; clear n2_ hb))
 go_ret
 exact ⟨rfl, HB.out⟩
set_option maxHeartbeats 8000000 in
set_option maxRecDepth 100000 in
theorem upload_conflict_any.at (k : Nat) (A0 : Option Addr) (c0 : Nat) (l0 : List S25) (a1_0 : Int) (a1_1 : Int) (A1_2 : Option Addr) (c1_2 : Nat) (l1_2 : List Int) (a1_3 : Int) (r : Bool) (w : World) {g : Nat} (hr0 : Kd.C k25 w A0 l0.length l0) (hc0 : l0.length ≤ c0) (hr1_2 : Kd.C (Kd.int .u8) w A1_2 l1_2.length l1_2) (hc1_2 : l1_2.length ≤ c1_2) (hbox : w.heap[g]? = some (.cells #[.int .i64 a1_0, .int .i64 a1_1, .slice A1_2 l1_2.length c1_2, .int .u64 a1_3] 25 (0, 0))) (h : upload_conflict_any.f k l0 a1_0 a1_1 l1_2 a1_3 = some r) :
  Calls Try.prog 54 #[.slice A0 l0.length c0, .func (.func 53) #[] #[.pointer (some ⟨g, 0, none⟩)]] w fun e w' => (∃ v : Int, e = .returned (.int .i64 v) ∧ decide (v ≥ 0) = r) ∧ Below w.heap.size w w' := by
 have hu25 := Try.underlying25
 have HR0 := am hr0
 have HC0 := am hc0
 have HR1_2 := am hr1_2
 have HC1_2 := am hc1_2
 have BKp := am hbox
 clear hr0 hc0 hr1_2 hc1_2 hbox
 have HB := am (Below.refl w.heap.size w)
 have H' := am (show upload_conflict_any.l0 k l0 a1_0 a1_1 l1_2 a1_3 0 = some r from h)
 clear h
 go_enter Try.func54, Try.ntmps54
 go_wp2
 go_loopg [8] k (fun kq v8 w' => ∃ (x8_1 : Int), v8 = .int .i64 x8_1 ∧ Aside0 (upload_conflict_any.l0 kq l0 a1_0 a1_1 l1_2 a1_3 x8_1 = some r) ∧ Aside0 (kq ≤ k) ∧ Aside0 (Below w.heap.size w w'))
 case atStart => exact ⟨(0), (by first | rfl | (simp; done) | (simp [*]; done)), H', ⟨Nat.le_refl _⟩, HB⟩
 case round =>
  clear H' HB
  obtain ⟨x8_1, rfl, HA, HK1, HB⟩ := hrel
  cases gk with
  | zero => exact absurd HA.out (by simp [upload_conflict_any.l0])
  | succ k1 =>
   have H := HA.out
   clear HA
   simp only [upload_conflict_any.l0] at H
   by_cases p0 : x8_1 < (l0.length : Int)
   ·
    rw [if_pos p0] at H
    have c0_ : decide (x8_1 < (l0.length : Int)) = true := decide_eq_true p0
    by_cases p1' : ¬ 0 ≤ x8_1
    ·
     rw [if_neg p1'] at H
     exact absurd H (by simp)
    have p1 : 0 ≤ x8_1 := Classical.not_not.mp p1'
    clear p1'
    rw [if_pos p1] at H
    replace H := Option.bind_eq_some_iff.mp H
    obtain ⟨b, A80, H⟩ := H
    have A8 := am A80
    clear A80
    obtain ⟨ad, A_2, c_2, e_, hx_0, hx_1, hx_2, hx_3, hl_2, hi_2⟩ := at_T25 HR0.out x8_1 p1 p0
    cases e_
    replace hx_0 := (HB.out.cell (World.block_lt_of_cell? w _ hx_0)).trans hx_0
    replace hx_1 := (HB.out.cell (World.block_lt_of_cell? w _ hx_1)).trans hx_1
    replace hx_2 := (HB.out.cell (World.block_lt_of_cell? w _ hx_2)).trans hx_2
    replace hx_3 := (HB.out.cell (World.block_lt_of_cell? w _ hx_3)).trans hx_3
    have c1_ : decide (0 ≤ x8_1) = true := decide_eq_true p1
    cases b with
    | true =>
     have H' := am ((if_pos rfl).symm.trans H)
     clear H
     go_wp2_with (go_at_call 53; refine (upload_conflict_any.one _ _ _ _ _ _ a1_0 a1_1 _ _ l1_2 a1_3 _ _ (Kd.C_below hi_2 HB.out) hl_2 (Kd.C_below HR1_2.out HB.out) HC1_2.out (blk_below (g := g) (o := .cells #[.int .i64 a1_0, .int .i64 a1_1, .slice A1_2 l1_2.length c1_2, .int .u64 a1_3] 25 (0, 0)) BKp.out HB.out) A8.out).mono ?_; rintro e w13 ⟨rfl, hb⟩; have n0_ := am (below_step HB.out hb); clear HB; have HB := n0_; clear n0_ hb)
     go_roundg k1
     case measure => have := HK1.out; omega
     case rel => exact ⟨(wrap64 (x8_1 + 1)), (by first | rfl | (simp; done) | (simp [*]; done)), H', ⟨by have := HK1.out; omega⟩, HB⟩
    | false =>
     have H' := (if_neg (show ¬ (false = true) by decide)).symm.trans H
     clear H
     obtain rfl := Option.some.inj H'
     clear H'
     go_wp2_with (go_at_call 53; refine (upload_conflict_any.one _ _ _ _ _ _ a1_0 a1_1 _ _ l1_2 a1_3 _ _ (Kd.C_below hi_2 HB.out) hl_2 (Kd.C_below HR1_2.out HB.out) HC1_2.out (blk_below (g := g) (o := .cells #[.int .i64 a1_0, .int .i64 a1_1, .slice A1_2 l1_2.length c1_2, .int .u64 a1_3] 25 (0, 0)) BKp.out HB.out) A8.out).mono ?_; rintro e w13 ⟨rfl, hb⟩; have n0_ := am (below_step HB.out hb); clear HB; have HB := n0_; clear n0_ hb)
     go_ret
     exact ⟨⟨_, rfl, by simp [p1]⟩, HB.out⟩
   ·
    rw [if_neg p0] at H
    have c0_ : decide (x8_1 < (l0.length : Int)) = false := decide_eq_false p0
    obtain rfl := Option.some.inj H
    go_wp2
    go_ret
    exact ⟨⟨_, rfl, by decide⟩, HB.out⟩
set_option maxHeartbeats 8000000 in
theorem upload_conflict_any.calls (k : Nat) (A0 : Option Addr) (c0 : Nat) (l0 : List S25) (a1_0 : Int) (a1_1 : Int) (A1_2 : Option Addr) (c1_2 : Nat) (l1_2 : List Int) (a1_3 : Int) (r : Bool) (w : World) {g : Nat} (hr0 : Kd.C k25 w A0 l0.length l0) (hc0 : l0.length ≤ c0) (hr1_2 : Kd.C (Kd.int .u8) w A1_2 l1_2.length l1_2) (hc1_2 : l1_2.length ≤ c1_2) (hbox : w.heap[g]? = some (.cells #[.int .i64 a1_0, .int .i64 a1_1, .slice A1_2 l1_2.length c1_2, .int .u64 a1_3] 25 (0, 0))) (h : upload_conflict_any.f k l0 a1_0 a1_1 l1_2 a1_3 = some r) :
  Calls Try.prog 39 #[.slice A0 l0.length c0, .func (.func 53) #[] #[.pointer (some ⟨g, 0, none⟩)]] w fun e w' => e = .returned (.bool r) ∧ Below w.heap.size w w' := by
 go_enter Try.func39, Try.ntmps39
 go_wp2_with (go_at_call 54; refine (upload_conflict_any.at k _ _ l0 a1_0 a1_1 _ _ l1_2 a1_3 r _ hr0 hc0 hr1_2 hc1_2 hbox h).mono ?_; rintro e w1 ⟨⟨v, rfl, hv⟩, hb⟩)
 go_ret
 exact ⟨by rw [← hv]; rfl, hb⟩

/-! ### upload_conflict: function 38 -/
def upload_conflict.f (k : Nat) (a0_0 : Int) (l0_1 : List Int) (l0_2 : List (S25)) (a1_0 : Int) (a1_1 : Int) (l1_2 : List Int) (a1_3 : Int) : Option (Bool) := (upload_agree.f l0_1 0 l1_2 a1_1).bind fun t217 => (if t217 = true then ((upload_conflict_any.f k l0_2 a1_0 a1_1 l1_2 a1_3).bind fun t218 => (some t218)) else (none))
theorem upload_conflict.mono : ∀ a0 a1 a2 a3 a4 a5 a6 k, LeO (upload_conflict.f k a0 a1 a2 a3 a4 a5 a6) (upload_conflict.f (k + 1) a0 a1 a2 a3 a4 a5 a6) := by
 intro a0 a1 a2 a3 a4 a5 a6 k
 unfold upload_conflict.f
 repeat' first
   | (with_reducible exact upload_conflict_any.mono _ _ _ _ _ _)
   | (with_reducible exact LeO.refl _)
   | (with_reducible exact LeO.none _)
   | (with_reducible refine LeO.ite ?_ ?_)
   | (with_reducible refine LeO.bind ?_ (fun _ => ?_))
   | exact upload_conflict_any.mono _ _ _ _ _ _
   | exact LeO.none _
   | refine LeO.ite ?_ ?_
   | refine LeO.bind ?_ (fun _ => ?_)
set_option maxHeartbeats 8000000 in
set_option maxRecDepth 100000 in
theorem upload_conflict.calls (k : Nat) (a0_0 : Int) (A0_1 : Option Addr) (c0_1 : Nat) (l0_1 : List Int) (A0_2 : Option Addr) (c0_2 : Nat) (l0_2 : List (S25)) (a1_0 : Int) (a1_1 : Int) (A1_2 : Option Addr) (c1_2 : Nat) (l1_2 : List Int) (a1_3 : Int) (r : Bool) (w : World) (hr0_1 : Kd.C (Kd.int .u8) w A0_1 l0_1.length l0_1) (hc0_1 : l0_1.length ≤ c0_1) (hr0_2 : Kd.C k25 w A0_2 l0_2.length l0_2) (hc0_2 : l0_2.length ≤ c0_2) (hr1_2 : Kd.C (Kd.int .u8) w A1_2 l1_2.length l1_2) (hc1_2 : l1_2.length ≤ c1_2) (h : upload_conflict.f k a0_0 l0_1 l0_2 a1_0 a1_1 l1_2 a1_3 = some r) :
  Calls Try.prog 38 #[.agg #[.int .i64 a0_0, .slice A0_1 l0_1.length c0_1, .slice A0_2 l0_2.length c0_2], .agg #[.int .i64 a1_0, .int .i64 a1_1, .slice A1_2 l1_2.length c1_2, .int .u64 a1_3]] w fun e w' => e = .returned (.bool r) ∧ Below w.heap.size w w' := by
 have hu34 := Try.underlying34
 have hu25 := Try.underlying25
 have HR0_1 := am hr0_1
 have HC0_1 := am hc0_1
 clear hr0_1 hc0_1
 have HR0_2 := am hr0_2
 have HC0_2 := am hc0_2
 clear hr0_2 hc0_2
 have HR1_2 := am hr1_2
 have HC1_2 := am hc1_2
 clear hr1_2 hc1_2
 have HB := am (Below.refl w.heap.size w)
 have H : ((upload_agree.f l0_1 0 l1_2 a1_1).bind fun t217 => (if t217 = true then ((upload_conflict_any.f k l0_2 a1_0 a1_1 l1_2 a1_3).bind fun t218 => (some t218)) else (none))) = some r := h
 clear h
 replace H := Option.bind_eq_some_iff.mp H
 obtain ⟨t217, A30, H⟩ := H
 replace H : (if t217 = true then ((upload_conflict_any.f k l0_2 a1_0 a1_1 l1_2 a1_3).bind fun t218 => (some t218)) else (none)) = some r := H
 have A3 := am A30
 clear A30
 by_cases c4 : t217 = true
 ·
  subst c4
  have H1 : ((upload_conflict_any.f k l0_2 a1_0 a1_1 l1_2 a1_3).bind fun t218 => (some t218)) = some r := by rw [if_pos rfl] at H; exact H
  clear H
  have H := H1
  clear H1
  replace H := Option.bind_eq_some_iff.mp H
  obtain ⟨t218, A50, H⟩ := H
  replace H : (some t218) = some r := H
  have A5 := am A50
  clear A50
  obtain rfl := Option.some.inj H
  go_enter Try.func38, Try.ntmps38
  go_wp2_with (first | ((with_reducible refine gate_dst (N := 2) rfl ?_); refine box_event ?hg (N := 2) ?hd (cs := #[.int .i64 a0_0, .slice A0_1 l0_1.length c0_1, .slice A0_2 l0_2.length c0_2]) (t := 34) ?hr ?_; (case hd => rfl); (case hg => rfl); (case hr => exact gz); intro gb215 hg w6 hbox hb; have BK215 := am (hbox); have GW215 := am ((bs hg (hz HB.out) : w.heap.size ≤ gb215)); have GE215 := am ((bs hg (hz HB.out) : w.heap.size ≤ gb215)); replace HB := am (below_step (hz HB.out) hb); clear hb hbox hg) | ((with_reducible refine gate_dst (N := 3) rfl ?_); refine box_event ?hg (N := 3) ?hd (cs := #[.int .i64 a1_0, .int .i64 a1_1, .slice A1_2 l1_2.length c1_2, .int .u64 a1_3]) (t := 25) ?hr ?_; (case hd => rfl); (case hg => rfl); (case hr => exact gz); intro gb216 hg w7 hbox hb; have BK216 := am (hbox); have GW216 := am ((bs hg (hz1 HB.out GE215.out) : w.heap.size ≤ gb216)); have GE216 := am ((bs hg (hz1 HB.out GE215.out) : w.heap.size ≤ gb216)); replace HB := am (below_step (hz1 HB.out GE215.out) hb); have NB215_216 := am ((nl hg (bz BK215.out) : gb215 ≠ gb216)); have NB216_215 := am ((ng hg (bz BK215.out) : gb216 ≠ gb215)); replace BK215 := am (blk_below (bz BK215.out) hb); clear hb hbox hg; have hnb8 := NB215_216.out; have hnc8 := NB216_215.out; obtain ⟨hcz9_0, hcz9_1, hcz9_2⟩ := cs3 BK215.out; obtain ⟨hfz9_0, hfz9_1, hfz9_2⟩ := fs3 BK215.out; obtain ⟨hcz10_0, hcz10_1, hcz10_2, hcz10_3⟩ := cs4 BK216.out; obtain ⟨hfz10_0, hfz10_1, hfz10_2, hfz10_3⟩ := fs4 BK216.out) | ((with_reducible refine gate_callee (f := 52) rfl ?_); refine goesL_ (some 11) rfl rfl Try.func52 (by kernel_rfl) rfl #[.slice A0_1 l0_1.length c0_1, .int .i64 0, .slice A1_2 l1_2.length c1_2, .int .i64 a1_1] rfl lz ?_; (with_reducible refine (upload_agree.calls _ _ l0_1 0 _ _ l1_2 a1_1 true _ ?side1 ?side2 ?side3 ?side4 A3.out).mono ?_); (case side1 => exact cz (Kd.C_below HR0_1.out HB.out)); (case side2 => exact HC0_1.out); (case side3 => exact cz (Kd.C_below HR1_2.out HB.out)); (case side4 => exact HC1_2.out); rintro e w11 ⟨rfl, hb⟩; refine ⟨_, rfl, ?_⟩; replace BK215 := am (blk_below (bz BK215.out) hb); replace BK216 := am (blk_below (bz BK216.out) hb); replace HB := am (below_step (hz2 HB.out GE215.out GE216.out) hb); (try clear hb); (try clear hb2); (try clear hk); (try clear hi); obtain ⟨hcz12_0, hcz12_1, hcz12_2⟩ := cs3 BK215.out; obtain ⟨hfz12_0, hfz12_1, hfz12_2⟩ := fs3 BK215.out) | (go_at_call 39; (refine (upload_conflict_any.calls (g := gb216) k _ _ l0_2 a1_0 a1_1 _ _ l1_2 a1_3 t218 _ (by exact cz (Kd.C_below HR0_2.out HB.out)) (by exact HC0_2.out) (by exact cz (Kd.C_below HR1_2.out HB.out)) (by exact HC1_2.out) (bz BK216.out) A5.out).mono ?_); rintro e w13 ⟨rfl, hb⟩; replace BK215 := am (blk_below (bz BK215.out) hb); replace BK216 := am (blk_below (bz BK216.out) hb); replace HB := am (below_step (hz2 HB.out GE215.out GE216.out) hb); (try clear hb); (try clear hb2); (try clear hk); (try clear hi)))
  go_ret
  exact ⟨ez, hz2 HB.out GE215.out GE216.out⟩
 ·
  replace c4 := Bool.eq_false_iff.mpr c4
  subst c4
  have H1 : (none) = some r := by rw [if_neg (show ¬ (false = true) by decide)] at H; exact H
  clear H
  have H := H1
  clear H1
  exact absurd H (by simp)

end Go.Proofs.Ytglpnbcockancaa.Q
