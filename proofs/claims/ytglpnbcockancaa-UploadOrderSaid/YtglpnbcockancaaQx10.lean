/- Made by wip/myprint.py of this session (it drives the kit's printer): what the calls of the Go functions come to, as plain Lean functions, and the row of a law over them; without conditions. -/
import Derived.Test.YtglpnbcockancaaQx0
import Derived.Test.YtglpnbcockancaaQx1
namespace Go.Proofs.Ytglpnbcockancaa.Q
open Go.RowKit Go.Proofs.YtglpnbcockancaaW.PrintWords Go.Proofs.YtglpnbcockancaaW.PrintLast Go.Proofs.YtglpnbcockancaaW.PrintMore
attribute [local go_sem] max2_int min2_int max_two min_two max_three min_three max_four min_four   -- for this text's walks alone
set_option linter.unusedVariables false
set_option linter.unusedSimpArgs false

/-! ### examboardlaw53_samePackets: function 16 -/
def examboardlaw53_samePackets.l0 : Nat → List (S25) → List (S25) → Int → Int → Option (Bool)
 | 0, _, _, _, _ => none
 | k + 1, x0, x1, x12, x13 => if x13 < x12 then (if 0 ≤ x13 then (if x13 < (x0.length : Int) then (if x13 < (x1.length : Int) then ((examboardlaw53_samePacket.f k ((rd_T25 x0 x13).f0) ((rd_T25 x0 x13).f1) ((rd_T25 x0 x13).f2) ((rd_T25 x0 x13).f3) ((rd_T25 x1 x13).f0) ((rd_T25 x1 x13).f1) ((rd_T25 x1 x13).f2) ((rd_T25 x1 x13).f3)).bind fun t188 => (if t188 = true then (examboardlaw53_samePackets.l0 k x0 x1 x12 (wrap64 (x13 + 1))) else (some false))) else (none)) else (none)) else (none)) else (some true)
def examboardlaw53_samePackets.f (k : Nat) (l0 : List (S25)) (l1 : List (S25)) : Option (Bool) := if (l0.length : Int) = (l1.length : Int) then (examboardlaw53_samePackets.l0 k l0 l1 (l0.length : Int) 0) else (some false)
theorem examboardlaw53_samePackets.mono_l : ∀ k, (∀ y0 y1 y2 y3, LeO (examboardlaw53_samePackets.l0 k y0 y1 y2 y3) (examboardlaw53_samePackets.l0 (k + 1) y0 y1 y2 y3))
 | 0 => fun _ _ _ _ r h => by simp [examboardlaw53_samePackets.l0] at h
 | k + 1 => by
  have ih0 := examboardlaw53_samePackets.mono_l k
  ·
   intro y0 y1 y2 y3
   unfold examboardlaw53_samePackets.l0
   repeat' first
   | (with_reducible exact ih0 _ _ _ _)
   | (with_reducible exact examboardlaw53_samePacket.mono _ _ _ _ _ _ _ _ _)
   | (with_reducible exact LeO.refl _)
   | (with_reducible exact LeO.none _)
   | (with_reducible refine LeO.ite ?_ ?_)
   | (with_reducible refine LeO.bind ?_ (fun _ => ?_))
   | exact ih0 _ _ _ _
   | exact examboardlaw53_samePacket.mono _ _ _ _ _ _ _ _ _
   | exact LeO.none _
   | refine LeO.ite ?_ ?_
   | refine LeO.bind ?_ (fun _ => ?_)
theorem examboardlaw53_samePackets.mono : ∀ a0 a1 k, LeO (examboardlaw53_samePackets.f k a0 a1) (examboardlaw53_samePackets.f (k + 1) a0 a1) := by
 intro a0 a1 k
 have ih0 := examboardlaw53_samePackets.mono_l k
 unfold examboardlaw53_samePackets.f
 repeat' first
   | (with_reducible exact ih0 _ _ _ _)
   | (with_reducible exact examboardlaw53_samePacket.mono _ _ _ _ _ _ _ _ _)
   | (with_reducible exact LeO.refl _)
   | (with_reducible exact LeO.none _)
   | (with_reducible refine LeO.ite ?_ ?_)
   | (with_reducible refine LeO.bind ?_ (fun _ => ?_))
   | exact ih0 _ _ _ _
   | exact examboardlaw53_samePacket.mono _ _ _ _ _ _ _ _ _
   | exact LeO.none _
   | refine LeO.ite ?_ ?_
   | refine LeO.bind ?_ (fun _ => ?_)
def examboardlaw53_samePackets.T6 : Bool × List (List Nat × List Nat) := (true, [([], []), ([], []), ([0, 1], [0, 1]), ([2], [2]), ([], []), ([], []), ([4, 5], [4, 5]), ([6], [6]), ([3, 7], [3, 7]), ([8], [8])])
def examboardlaw53_samePackets.B6 : List Nat := [0, 0, 3, 7, 0, 0, 48, 112, 255, 511]
theorem examboardlaw53_samePackets.tab6 : rtab .any (opsOf Try.f16 6) = examboardlaw53_samePackets.T6 := by kernel_rfl
theorem examboardlaw53_samePackets.bits6 : waitsOk examboardlaw53_samePackets.T6.2 examboardlaw53_samePackets.B6 = true := by kernel_rfl
set_option maxHeartbeats 8000000 in
set_option maxRecDepth 100000 in
theorem examboardlaw53_samePackets.calls (k : Nat) (A0 : Option Addr) (c0 : Nat) (l0 : List (S25)) (A1 : Option Addr) (c1 : Nat) (l1 : List (S25)) (r : Bool) (w : World) (hr0 : Kd.C k25 w A0 l0.length l0) (hc0 : l0.length ≤ c0) (hr1 : Kd.C k25 w A1 l1.length l1) (hc1 : l1.length ≤ c1) (h : examboardlaw53_samePackets.f k l0 l1 = some r) :
  Calls Try.prog 16 #[.slice A0 l0.length c0, .slice A1 l1.length c1] w fun e w' => e = .returned (.bool r) ∧ Below w.heap.size w w' := by
 have hu25 := Try.underlying25
 have HR0 := am hr0
 have HC0 := am hc0
 clear hr0 hc0
 have HR1 := am hr1
 have HC1 := am hc1
 clear hr1 hc1
 have HB := am (Below.refl w.heap.size w)
 have H : (if (l0.length : Int) = (l1.length : Int) then (examboardlaw53_samePackets.l0 k l0 l1 (l0.length : Int) 0) else (some false)) = some r := h
 clear h
 by_cases c3 : (l0.length : Int) = (l1.length : Int)
 ·
  rw [if_pos c3] at H
  have c3b0 : ((l0.length : Int) == (l1.length : Int)) = true := beq_iff_eq.mpr c3
  have c3b1 : ((l0.length : Int) != (l1.length : Int)) = false := bne_eq_false_iff_eq.mpr c3
  have c3b2 : (l0.length == l1.length) = true := by first | simpa using c3 | (simp at c3 ⊢; omega)
  clear c3
  have H' := am H
  clear H
  go_enter Try.func16, Try.ntmps16
  go_wp2
  go_loopg [13] k (fun kq v13 w' => ∃ (x13_1 : Int), v13 = .int .i64 x13_1 ∧ Aside0 (examboardlaw53_samePackets.l0 kq l0 l1 (l0.length : Int) x13_1 = some r) ∧ Aside0 (kq ≤ k) ∧ Aside0 (Below w.heap.size w w'))
  case atStart => exact ⟨(0), (by first | rfl | (simp; done) | (simp [*]; done)), H', ⟨Nat.le_refl _⟩, ⟨hz HB.out⟩⟩
  case round =>
   clear H'
   try clear c1
   try clear p2
   try clear c3
   try clear c3b0
   try clear c3b1
   try clear c3b2
   obtain ⟨x13_1, rfl, HA, HK1, HB⟩ := hrel
   cases gk with
   | zero => exact absurd HA.out (by simp [examboardlaw53_samePackets.l0])
   | succ k1 =>
    have H := HA.out
    clear HA
    simp only [examboardlaw53_samePackets.l0] at H
    by_cases c4 : x13_1 < (l0.length : Int)
    ·
     rw [if_pos c4] at H
     have c4b0 : decide (x13_1 < (l0.length : Int)) = true := decide_eq_true c4
     clear c4
     replace H := it_ H
     obtain ⟨c5, H⟩ := H
     have c5b0 : decide (0 ≤ x13_1) = true := decide_eq_true c5
     clear c5
     replace H := it_ H
     obtain ⟨c6, H⟩ := H
     have c6b0 : decide (x13_1 < (l0.length : Int)) = true := decide_eq_true c6
     clear c6
     replace H := it_ H
     obtain ⟨c7, H⟩ := H
     have c7b0 : decide (x13_1 < (l1.length : Int)) = true := decide_eq_true c7
     clear c7
     replace H := Option.bind_eq_some_iff.mp H
     obtain ⟨t188, A80, H⟩ := H
     replace H : (if t188 = true then (examboardlaw53_samePackets.l0 k1 l0 l1 (l0.length : Int) (wrap64 (x13_1 + 1))) else (some false)) = some r := H
     have A8 := am A80
     clear A80
     by_cases c9 : t188 = true
     ·
      subst c9
      have H1 : (examboardlaw53_samePackets.l0 k1 l0 l1 (l0.length : Int) (wrap64 (x13_1 + 1))) = some r := by rw [if_pos rfl] at H; exact H
      clear H
      have H := H1
      clear H1
      have H' := am H
      clear H
      try go_wp2
      replace HB := am (below_drew1 HB.out)
      have p186 : 0 ≤ (x13_1 : Int) := of_decide_eq_true az
      have q186 : x13_1 < (l0.length : Int) := of_decide_eq_true az
      obtain ⟨ad186, A186_2, c186_2, e186, hx186_0, hx186_1, hx186_2, hx186_3, hl186_2, hi186_2⟩ := at_T25 HR0.out x13_1 p186 q186
      have hw186_3 := hx186_3
      have hw186_2 := hx186_2
      have hw186_1 := hx186_1
      have hw186_0 := hx186_0
      cases e186
      replace hx186_0 := (HB.out.cell (World.block_lt_of_cell? w _ hx186_0)).trans hx186_0
      replace hx186_1 := (HB.out.cell (World.block_lt_of_cell? w _ hx186_1)).trans hx186_1
      replace hx186_2 := (HB.out.cell (World.block_lt_of_cell? w _ hx186_2)).trans hx186_2
      replace hx186_3 := (HB.out.cell (World.block_lt_of_cell? w _ hx186_3)).trans hx186_3
      have HR186_2 := am hi186_2
      have HC186_2 := am hl186_2
      clear hi186_2 hl186_2
      replace p186 := eq_true p186
      replace q186 := eq_true q186
      have p187 : 0 ≤ (x13_1 : Int) := of_decide_eq_true az
      have q187 : x13_1 < (l1.length : Int) := of_decide_eq_true az
      obtain ⟨ad187, A187_2, c187_2, e187, hx187_0, hx187_1, hx187_2, hx187_3, hl187_2, hi187_2⟩ := at_T25 HR1.out x13_1 p187 q187
      have hw187_3 := hx187_3
      have hw187_2 := hx187_2
      have hw187_1 := hx187_1
      have hw187_0 := hx187_0
      cases e187
      replace hx187_0 := (HB.out.cell (World.block_lt_of_cell? w _ hx187_0)).trans hx187_0
      replace hx187_1 := (HB.out.cell (World.block_lt_of_cell? w _ hx187_1)).trans hx187_1
      replace hx187_2 := (HB.out.cell (World.block_lt_of_cell? w _ hx187_2)).trans hx187_2
      replace hx187_3 := (HB.out.cell (World.block_lt_of_cell? w _ hx187_3)).trans hx187_3
      have HR187_2 := am hi187_2
      have HC187_2 := am hl187_2
      clear hi187_2 hl187_2
      replace p187 := eq_true p187
      replace q187 := eq_true q187
      refine start_ (n := 10) (S := fun w' => w'.cell? (ad186.add ((x13_1).toNat * 4)) = some (.int .i64 ((rd_T25 l0 x13_1).f0)) ∧ w'.cell? ⟨(ad186.add ((x13_1).toNat * 4)).block, (ad186.add ((x13_1).toNat * 4)).off + 1, none⟩ = some (.int .i64 ((rd_T25 l0 x13_1).f1)) ∧ w'.cell? ⟨(ad186.add ((x13_1).toNat * 4)).block, (ad186.add ((x13_1).toNat * 4)).off + 2, none⟩ = some (.slice A186_2 ((rd_T25 l0 x13_1).f2).length c186_2) ∧ w'.cell? ⟨(ad186.add ((x13_1).toNat * 4)).block, (ad186.add ((x13_1).toNat * 4)).off + 3, none⟩ = some (.int .u64 ((rd_T25 l0 x13_1).f3)) ∧ w'.cell? (ad187.add ((x13_1).toNat * 4)) = some (.int .i64 ((rd_T25 l1 x13_1).f0)) ∧ w'.cell? ⟨(ad187.add ((x13_1).toNat * 4)).block, (ad187.add ((x13_1).toNat * 4)).off + 1, none⟩ = some (.int .i64 ((rd_T25 l1 x13_1).f1)) ∧ w'.cell? ⟨(ad187.add ((x13_1).toNat * 4)).block, (ad187.add ((x13_1).toNat * 4)).off + 2, none⟩ = some (.slice A187_2 ((rd_T25 l1 x13_1).f2).length c187_2) ∧ w'.cell? ⟨(ad187.add ((x13_1).toNat * 4)).block, (ad187.add ((x13_1).toNat * 4)).off + 3, none⟩ = some (.int .u64 ((rd_T25 l1 x13_1).f3))) (ds := []) #[false, false, false, false, false, false, false, false, false, false] (by kernel_rfl) rfl rfl ⟨((HB.out.cell (World.block_lt_of_cell? w _ hw186_0)).trans hw186_0), ((HB.out.cell (World.block_lt_of_cell? w _ hw186_1)).trans hw186_1), ((HB.out.cell (World.block_lt_of_cell? w _ hw186_2)).trans hw186_2), ((HB.out.cell (World.block_lt_of_cell? w _ hw186_3)).trans hw186_3), ((HB.out.cell (World.block_lt_of_cell? w _ hw187_0)).trans hw187_0), ((HB.out.cell (World.block_lt_of_cell? w _ hw187_1)).trans hw187_1), ((HB.out.cell (World.block_lt_of_cell? w _ hw187_2)).trans hw187_2), ((HB.out.cell (World.block_lt_of_cell? w _ hw187_3)).trans hw187_3)⟩ (fun hHeld => ?_); refine with_tabW examboardlaw53_samePackets.tab6 examboardlaw53_samePackets.bits6 (fun HT_ HW_ => ?_)
      generalize wr.drew = w10 at HB HR186_2 HR187_2 hx186_0 hx186_1 hx186_2 hx186_3 hx187_0 hx187_1 hx187_2 hx187_3 hHeld ⊢
      refine pz 0 16 HT_.out ?_
      refine pz 1 17 HT_.out ?_
      refine pz 2 18 HT_.out ?_
      refine pz 4 20 HT_.out ?_
      refine pz 5 21 HT_.out ?_
      refine pz 6 22 HT_.out ?_
      refine tz8 3 19 HT_.out HW_.out hHeld ?_
      refine tz8 7 23 HT_.out HW_.out hHeld ?_
      refine oz 8 24 HT_.out (fun K hK => ?_)
      refine goes_ Try.func11 (by kernel_rfl) rfl #[.agg #[.int .i64 ((rd_T25 l0 x13_1).f0), .int .i64 ((rd_T25 l0 x13_1).f1), .slice A186_2 ((rd_T25 l0 x13_1).f2).length c186_2, .int .u64 ((rd_T25 l0 x13_1).f3)], .agg #[.int .i64 ((rd_T25 l1 x13_1).f0), .int .i64 ((rd_T25 l1 x13_1).f1), .slice A187_2 ((rd_T25 l1 x13_1).f2).length c187_2, .int .u64 ((rd_T25 l1 x13_1).f3)]] (by rfl) rfl rfl lz ?_
      with_reducible refine (examboardlaw53_samePacket.calls k1 ((rd_T25 l0 x13_1).f0) ((rd_T25 l0 x13_1).f1) _ _ ((rd_T25 l0 x13_1).f2) ((rd_T25 l0 x13_1).f3) ((rd_T25 l1 x13_1).f0) ((rd_T25 l1 x13_1).f1) _ _ ((rd_T25 l1 x13_1).f2) ((rd_T25 l1 x13_1).f3) true _ ?side1 ?side2 ?side3 ?side4 A8.out).mono ?_
      (case side1 => exact cz (Kd.C_below HR186_2.out HB.out))
      (case side2 => exact HC186_2.out)
      (case side3 => exact cz (Kd.C_below HR187_2.out HB.out))
      (case side4 => exact HC187_2.out)
      rintro e w11 ⟨rfl, hb⟩
      refine ⟨_, rfl, ?_⟩
      replace HB := am (below_step (hz HB.out) hb)
      (try clear hb)
      (try clear hb2)
      (try clear hk)
      (try clear hi)
      refine hK.out _ _ ⟨((HB.out.cell (World.block_lt_of_cell? w _ hw186_0)).trans hw186_0), ((HB.out.cell (World.block_lt_of_cell? w _ hw186_1)).trans hw186_1), ((HB.out.cell (World.block_lt_of_cell? w _ hw186_2)).trans hw186_2), ((HB.out.cell (World.block_lt_of_cell? w _ hw186_3)).trans hw186_3), ((HB.out.cell (World.block_lt_of_cell? w _ hw187_0)).trans hw187_0), ((HB.out.cell (World.block_lt_of_cell? w _ hw187_1)).trans hw187_1), ((HB.out.cell (World.block_lt_of_cell? w _ hw187_2)).trans hw187_2), ((HB.out.cell (World.block_lt_of_cell? w _ hw187_3)).trans hw187_3)⟩ (fun hHeld => ?_)
      clear hK K
      refine norm_ (a' := ?_) ?_ ?_
      rotate_left
      ·
       show Act.put _ (some 24) _ = _
       simp only [Act.put, List.setIfInBounds_toArray, List.set_cons_zero, List.set_cons_succ, i64_w, i32_w]
       rfl
      refine pz 9 25 HT_.out ?_
      refine done_ (done_of HT_.out (by kernel_rfl)) ?_
      try go_wp2
      go_roundg k1
      case measure => have := HK1.out; omega
      case rel => exact ⟨(wrap64 (x13_1 + 1)), (by first | rfl | (simp; done) | (simp [*]; done)), H', ⟨by have := HK1.out; omega⟩, ⟨hz HB.out⟩⟩
     ·
      replace c9 := Bool.eq_false_iff.mpr c9
      subst c9
      have H1 : (some false) = some r := by rw [if_neg (show ¬ (false = true) by decide)] at H; exact H
      clear H
      have H := H1
      clear H1
      obtain rfl := Option.some.inj H
      try go_wp2
      replace HB := am (below_drew1 HB.out)
      have p186 : 0 ≤ (x13_1 : Int) := of_decide_eq_true az
      have q186 : x13_1 < (l0.length : Int) := of_decide_eq_true az
      obtain ⟨ad186, A186_2, c186_2, e186, hx186_0, hx186_1, hx186_2, hx186_3, hl186_2, hi186_2⟩ := at_T25 HR0.out x13_1 p186 q186
      have hw186_3 := hx186_3
      have hw186_2 := hx186_2
      have hw186_1 := hx186_1
      have hw186_0 := hx186_0
      cases e186
      replace hx186_0 := (HB.out.cell (World.block_lt_of_cell? w _ hx186_0)).trans hx186_0
      replace hx186_1 := (HB.out.cell (World.block_lt_of_cell? w _ hx186_1)).trans hx186_1
      replace hx186_2 := (HB.out.cell (World.block_lt_of_cell? w _ hx186_2)).trans hx186_2
      replace hx186_3 := (HB.out.cell (World.block_lt_of_cell? w _ hx186_3)).trans hx186_3
      have HR186_2 := am hi186_2
      have HC186_2 := am hl186_2
      clear hi186_2 hl186_2
      replace p186 := eq_true p186
      replace q186 := eq_true q186
      have p187 : 0 ≤ (x13_1 : Int) := of_decide_eq_true az
      have q187 : x13_1 < (l1.length : Int) := of_decide_eq_true az
      obtain ⟨ad187, A187_2, c187_2, e187, hx187_0, hx187_1, hx187_2, hx187_3, hl187_2, hi187_2⟩ := at_T25 HR1.out x13_1 p187 q187
      have hw187_3 := hx187_3
      have hw187_2 := hx187_2
      have hw187_1 := hx187_1
      have hw187_0 := hx187_0
      cases e187
      replace hx187_0 := (HB.out.cell (World.block_lt_of_cell? w _ hx187_0)).trans hx187_0
      replace hx187_1 := (HB.out.cell (World.block_lt_of_cell? w _ hx187_1)).trans hx187_1
      replace hx187_2 := (HB.out.cell (World.block_lt_of_cell? w _ hx187_2)).trans hx187_2
      replace hx187_3 := (HB.out.cell (World.block_lt_of_cell? w _ hx187_3)).trans hx187_3
      have HR187_2 := am hi187_2
      have HC187_2 := am hl187_2
      clear hi187_2 hl187_2
      replace p187 := eq_true p187
      replace q187 := eq_true q187
      refine start_ (n := 10) (S := fun w' => w'.cell? (ad186.add ((x13_1).toNat * 4)) = some (.int .i64 ((rd_T25 l0 x13_1).f0)) ∧ w'.cell? ⟨(ad186.add ((x13_1).toNat * 4)).block, (ad186.add ((x13_1).toNat * 4)).off + 1, none⟩ = some (.int .i64 ((rd_T25 l0 x13_1).f1)) ∧ w'.cell? ⟨(ad186.add ((x13_1).toNat * 4)).block, (ad186.add ((x13_1).toNat * 4)).off + 2, none⟩ = some (.slice A186_2 ((rd_T25 l0 x13_1).f2).length c186_2) ∧ w'.cell? ⟨(ad186.add ((x13_1).toNat * 4)).block, (ad186.add ((x13_1).toNat * 4)).off + 3, none⟩ = some (.int .u64 ((rd_T25 l0 x13_1).f3)) ∧ w'.cell? (ad187.add ((x13_1).toNat * 4)) = some (.int .i64 ((rd_T25 l1 x13_1).f0)) ∧ w'.cell? ⟨(ad187.add ((x13_1).toNat * 4)).block, (ad187.add ((x13_1).toNat * 4)).off + 1, none⟩ = some (.int .i64 ((rd_T25 l1 x13_1).f1)) ∧ w'.cell? ⟨(ad187.add ((x13_1).toNat * 4)).block, (ad187.add ((x13_1).toNat * 4)).off + 2, none⟩ = some (.slice A187_2 ((rd_T25 l1 x13_1).f2).length c187_2) ∧ w'.cell? ⟨(ad187.add ((x13_1).toNat * 4)).block, (ad187.add ((x13_1).toNat * 4)).off + 3, none⟩ = some (.int .u64 ((rd_T25 l1 x13_1).f3))) (ds := []) #[false, false, false, false, false, false, false, false, false, false] (by kernel_rfl) rfl rfl ⟨((HB.out.cell (World.block_lt_of_cell? w _ hw186_0)).trans hw186_0), ((HB.out.cell (World.block_lt_of_cell? w _ hw186_1)).trans hw186_1), ((HB.out.cell (World.block_lt_of_cell? w _ hw186_2)).trans hw186_2), ((HB.out.cell (World.block_lt_of_cell? w _ hw186_3)).trans hw186_3), ((HB.out.cell (World.block_lt_of_cell? w _ hw187_0)).trans hw187_0), ((HB.out.cell (World.block_lt_of_cell? w _ hw187_1)).trans hw187_1), ((HB.out.cell (World.block_lt_of_cell? w _ hw187_2)).trans hw187_2), ((HB.out.cell (World.block_lt_of_cell? w _ hw187_3)).trans hw187_3)⟩ (fun hHeld => ?_); refine with_tabW examboardlaw53_samePackets.tab6 examboardlaw53_samePackets.bits6 (fun HT_ HW_ => ?_)
      generalize wr.drew = w12 at HB HR186_2 HR187_2 hx186_0 hx186_1 hx186_2 hx186_3 hx187_0 hx187_1 hx187_2 hx187_3 hHeld ⊢
      refine pz 0 16 HT_.out ?_
      refine pz 1 17 HT_.out ?_
      refine pz 2 18 HT_.out ?_
      refine pz 4 20 HT_.out ?_
      refine pz 5 21 HT_.out ?_
      refine pz 6 22 HT_.out ?_
      refine tz8 3 19 HT_.out HW_.out hHeld ?_
      refine tz8 7 23 HT_.out HW_.out hHeld ?_
      refine oz 8 24 HT_.out (fun K hK => ?_)
      refine goes_ Try.func11 (by kernel_rfl) rfl #[.agg #[.int .i64 ((rd_T25 l0 x13_1).f0), .int .i64 ((rd_T25 l0 x13_1).f1), .slice A186_2 ((rd_T25 l0 x13_1).f2).length c186_2, .int .u64 ((rd_T25 l0 x13_1).f3)], .agg #[.int .i64 ((rd_T25 l1 x13_1).f0), .int .i64 ((rd_T25 l1 x13_1).f1), .slice A187_2 ((rd_T25 l1 x13_1).f2).length c187_2, .int .u64 ((rd_T25 l1 x13_1).f3)]] (by rfl) rfl rfl lz ?_
      with_reducible refine (examboardlaw53_samePacket.calls k1 ((rd_T25 l0 x13_1).f0) ((rd_T25 l0 x13_1).f1) _ _ ((rd_T25 l0 x13_1).f2) ((rd_T25 l0 x13_1).f3) ((rd_T25 l1 x13_1).f0) ((rd_T25 l1 x13_1).f1) _ _ ((rd_T25 l1 x13_1).f2) ((rd_T25 l1 x13_1).f3) false _ ?side1 ?side2 ?side3 ?side4 A8.out).mono ?_
      (case side1 => exact cz (Kd.C_below HR186_2.out HB.out))
      (case side2 => exact HC186_2.out)
      (case side3 => exact cz (Kd.C_below HR187_2.out HB.out))
      (case side4 => exact HC187_2.out)
      rintro e w13 ⟨rfl, hb⟩
      refine ⟨_, rfl, ?_⟩
      replace HB := am (below_step (hz HB.out) hb)
      (try clear hb)
      (try clear hb2)
      (try clear hk)
      (try clear hi)
      refine hK.out _ _ ⟨((HB.out.cell (World.block_lt_of_cell? w _ hw186_0)).trans hw186_0), ((HB.out.cell (World.block_lt_of_cell? w _ hw186_1)).trans hw186_1), ((HB.out.cell (World.block_lt_of_cell? w _ hw186_2)).trans hw186_2), ((HB.out.cell (World.block_lt_of_cell? w _ hw186_3)).trans hw186_3), ((HB.out.cell (World.block_lt_of_cell? w _ hw187_0)).trans hw187_0), ((HB.out.cell (World.block_lt_of_cell? w _ hw187_1)).trans hw187_1), ((HB.out.cell (World.block_lt_of_cell? w _ hw187_2)).trans hw187_2), ((HB.out.cell (World.block_lt_of_cell? w _ hw187_3)).trans hw187_3)⟩ (fun hHeld => ?_)
      clear hK K
      refine norm_ (a' := ?_) ?_ ?_
      rotate_left
      ·
       show Act.put _ (some 24) _ = _
       simp only [Act.put, List.setIfInBounds_toArray, List.set_cons_zero, List.set_cons_succ, i64_w, i32_w]
       rfl
      refine pz 9 25 HT_.out ?_
      refine done_ (done_of HT_.out (by kernel_rfl)) ?_
      try go_wp2
      go_ret
      exact ⟨ez, hz HB.out⟩
    ·
     rw [if_neg c4] at H
     have c4b0 : decide (x13_1 < (l0.length : Int)) = false := decide_eq_false c4
     clear c4
     obtain rfl := Option.some.inj H
     go_wp2
     go_ret
     exact ⟨ez, hz HB.out⟩
 ·
  rw [if_neg c3] at H
  have c3b0 : ((l0.length : Int) == (l1.length : Int)) = false := beq_eq_false_iff_ne.mpr c3
  have c3b1 : ((l0.length : Int) != (l1.length : Int)) = true := bne_iff_ne.mpr c3
  have c3b2 : (l0.length == l1.length) = false := by first | simpa using c3 | (simp at c3 ⊢; omega)
  obtain rfl := Option.some.inj H
  go_enter Try.func16, Try.ntmps16
  go_wp2
  go_ret
  exact ⟨ez, hz HB.out⟩

end Go.Proofs.Ytglpnbcockancaa.Q
