/- Made by wip/myprint.py of this session (it drives the kit's printer): what the calls of the Go functions come to, as plain Lean functions, and the row of a law over them; without conditions. -/
import Derived.Test.YteeggfnailpcpaaDoorQx0
import Derived.Test.YteeggfnailpcpaaDoorQx1
import Derived.Test.YteeggfnailpcpaaDoorQx2
namespace Go.Proofs.YteeggfnailpcpaaDoor.Q
open Go.RowKit Go.Proofs.YteeggfnailpcpaaDoorW.PrintWords Go.Proofs.YteeggfnailpcpaaDoorW.PrintLast Go.Proofs.YteeggfnailpcpaaDoorW.PrintMore
attribute [local go_sem] max2_int min2_int max_two min_two max_three min_three max_four min_four   -- for this text's walks alone
set_option linter.unusedVariables false
set_option linter.unusedSimpArgs false

/-! ### codec_put: function 43 -/
mutual
def codec_put.l0 : Nat → List Int → List (S43) → Int → Int → Option (List Int)
 | 0, _, _, _, _ => none
 | k + 1, x0, x44, x45, x46 => if x46 < x45 then (if 0 ≤ x46 then (if x46 < (x44.length : Int) then ((codec_put.f k x0 ((rd_T43 x44 x46).f0) ((rd_T43 x44 x46).f1) ((rd_T43 x44 x46).f2) ((rd_T43 x44 x46).f3) ((rd_T43 x44 x46).f4)).bind fun t147 => (codec_put.l0 k t147 x44 x45 (wrap64 (x46 + 1)))) else (none)) else (none)) else (some x0)
def codec_put.f : Nat → List Int → Int → Int → Int → ByteArray → List (S43) → Option (List Int)
 | 0, _, _, _, _, _, _ => none
 | k + 1, l0, a1_0, a1_1, a1_2, a1_3, l1_4 => (codec_putVarint.f k l0 (IntKind.u64.wrap (a1_0))).bind fun t123 => ((some (([(a1_1) % 256] : List Int) : List Int)).bind fun y126 => (if t123.length + y126.length < 140737488355328 then ((some (t123 ++ y126 : List Int)).bind fun y129 => (if a1_1 = 1 then ((codec_zigzag.f a1_2).bind fun t132 => ((codec_putVarint.f k y129 t132).bind fun t133 => (some t133))) else (if a1_1 = 2 then ((codec_putVarint.f k y129 (IntKind.u64.wrap ((a1_3.size : Int)))).bind fun t136 => (if t136.length + a1_3.size < 140737488355328 then (some (t136 ++ bytesOf a1_3)) else (none))) else ((codec_putVarint.f k y129 (IntKind.u64.wrap ((l1_4.length : Int)))).bind fun t142 => (codec_put.l0 k t142 l1_4 (l1_4.length : Int) 0))))) else (none)))
end
theorem codec_put.mono_l : ∀ k, (∀ y0 y1 y2 y3 y4 y5, LeO (codec_put.f k y0 y1 y2 y3 y4 y5) (codec_put.f (k + 1) y0 y1 y2 y3 y4 y5)) ∧ (∀ y0 y1 y2 y3, LeO (codec_put.l0 k y0 y1 y2 y3) (codec_put.l0 (k + 1) y0 y1 y2 y3))
 | 0 => ⟨fun _ _ _ _ _ _ r h => by simp [codec_put.f] at h, fun _ _ _ _ r h => by simp [codec_put.l0] at h⟩
 | k + 1 => by
  obtain ⟨ih0, ih1⟩ := codec_put.mono_l k
  refine ⟨?_, ?_⟩
  ·
   intro y0 y1 y2 y3 y4 y5
   unfold codec_put.f
   repeat' first
   | (with_reducible exact ih0 _ _ _ _ _ _)
   | (with_reducible exact ih1 _ _ _ _)
   | (with_reducible exact codec_putVarint.mono _ _ _)
   | (with_reducible exact LeO.refl _)
   | (with_reducible exact LeO.none _)
   | (with_reducible refine LeO.ite ?_ ?_)
   | (with_reducible refine LeO.bind ?_ (fun _ => ?_))
   | exact ih0 _ _ _ _ _ _
   | exact ih1 _ _ _ _
   | exact codec_putVarint.mono _ _ _
   | exact LeO.none _
   | refine LeO.ite ?_ ?_
   | refine LeO.bind ?_ (fun _ => ?_)
  ·
   intro y0 y1 y2 y3
   unfold codec_put.l0
   repeat' first
   | (with_reducible exact ih0 _ _ _ _ _ _)
   | (with_reducible exact ih1 _ _ _ _)
   | (with_reducible exact codec_putVarint.mono _ _ _)
   | (with_reducible exact LeO.refl _)
   | (with_reducible exact LeO.none _)
   | (with_reducible refine LeO.ite ?_ ?_)
   | (with_reducible refine LeO.bind ?_ (fun _ => ?_))
   | exact ih0 _ _ _ _ _ _
   | exact ih1 _ _ _ _
   | exact codec_putVarint.mono _ _ _
   | exact LeO.none _
   | refine LeO.ite ?_ ?_
   | refine LeO.bind ?_ (fun _ => ?_)
theorem codec_put.mono : ∀ a0 a1 a2 a3 a4 a5 k, LeO (codec_put.f k a0 a1 a2 a3 a4 a5) (codec_put.f (k + 1) a0 a1 a2 a3 a4 a5) := by
 intro a0 a1 a2 a3 a4 a5 k
 obtain ⟨ih0, ih1⟩ := codec_put.mono_l k
 exact ih0 a0 a1 a2 a3 a4 a5
def codec_put.T1 : Bool × List (List Nat × List Nat) := (true, [([], []), ([], []), ([1], [1]), ([2], [2]), ([0, 3], [0, 3]), ([], []), ([5], [5]), ([6], [6]), ([7], [7]), ([4, 8, 4], [4, 8]), ([9, 9, 0, 1, 2, 3, 4, 5, 6, 7, 8, 9], [0, 9])])
def codec_put.B1 : List Nat := [0, 0, 2, 6, 15, 0, 32, 96, 224, 511, 1023]
theorem codec_put.tab1 : rtab .any (opsOf Tryd.f43 1) = codec_put.T1 := by kernel_rfl
theorem codec_put.bits1 : waitsOk codec_put.T1.2 codec_put.B1 = true := by kernel_rfl
def codec_put.T6 : Bool × List (List Nat × List Nat) := (true, [([], []), ([], []), ([1], [1]), ([2], [2]), ([3], [3]), ([0, 4], [0, 4]), ([], []), ([6], [6]), ([5, 7, 5], [5, 7]), ([8, 8, 0, 1, 2, 3, 4, 5, 6, 7, 8], [8])])
def codec_put.B6 : List Nat := [0, 0, 2, 6, 14, 31, 0, 64, 255, 511]
theorem codec_put.tab6 : rtab .any (opsOf Tryd.f43 6) = codec_put.T6 := by kernel_rfl
theorem codec_put.bits6 : waitsOk codec_put.T6.2 codec_put.B6 = true := by kernel_rfl
set_option maxHeartbeats 8000000 in
set_option maxRecDepth 100000 in
theorem codec_put.calls (k : Nat) : ∀ (P0_ : Nat → Prop) (u9000_ : Value) (l0 : List Int) (a1_0 : Int) (a1_1 : Int) (a1_2 : Int) (a1_3 : ByteArray) (A1_4 : Option Addr) (c1_4 : Nat) (l1_4 : List (S43)) (r : List Int) (w0 w : World) (hB : Below w0.heap.size w0 w) (ho0 : Kd.R (Kd.int .u8) 5 w w0.heap.size P0_ u9000_ l0) (hr1_4 : Kd.C k43 w0 A1_4 l1_4.length l1_4) (hc1_4 : l1_4.length ≤ c1_4) (h : codec_put.f k l0 a1_0 a1_1 a1_2 a1_3 l1_4 = some r),
  Calls Tryd.prog 43 #[u9000_, .agg #[.int .i64 a1_0, .int .i64 a1_1, .int .i64 a1_2, .string a1_3, .slice A1_4 l1_4.length c1_4]] w fun e w' => ∃ v0_ : Value, e = .returned (v0_) ∧ Kd.R (Kd.int .u8) 5 w' w0.heap.size (fun k_ => (P0_ k_ ∨ w.heap.size ≤ k_)) v0_ r ∧ Below w0.heap.size w0 w' ∧ Kept w w' (fun k_ => P0_ k_) := by
 induction k using Nat.strongRecOn with
 | _ k ih =>
 intro P0_ u9000_ l0 a1_0 a1_1 a1_2 a1_3 A1_4 c1_4 l1_4 r w0 w hB ho0 hr1_4 hc1_4 h
 cases k with
 | zero => exact absurd h (by simp [codec_put.f])
 | succ k =>
 simp only [codec_put.f] at h
 have hu43 := Tryd.underlying43
 have HO0 := am (show Kd.R (Kd.int .u8) 5 w w0.heap.size (fun k_ => (P0_ k_ ∨ w.heap.size ≤ k_)) u9000_ l0 from Kd.R_mono ho0 (fun k_ hk => (.inl hk)))
 have HR1_4 := am hr1_4
 have HC1_4 := am hc1_4
 clear hr1_4 hc1_4
 have HK := am (Kept.refl w (fun k_ => P0_ k_))
 have HW0 := am hB.size
 have HB := am hB
 clear hB
 have H : ((codec_putVarint.f k l0 (IntKind.u64.wrap (a1_0))).bind fun t123 => ((some (([(a1_1) % 256] : List Int) : List Int)).bind fun y126 => (if t123.length + y126.length < 140737488355328 then ((some (t123 ++ y126 : List Int)).bind fun y129 => (if a1_1 = 1 then ((codec_zigzag.f a1_2).bind fun t132 => ((codec_putVarint.f k y129 t132).bind fun t133 => (some t133))) else (if a1_1 = 2 then ((codec_putVarint.f k y129 (IntKind.u64.wrap ((a1_3.size : Int)))).bind fun t136 => (if t136.length + a1_3.size < 140737488355328 then (some (t136 ++ bytesOf a1_3)) else (none))) else ((codec_putVarint.f k y129 (IntKind.u64.wrap ((l1_4.length : Int)))).bind fun t142 => (codec_put.l0 k t142 l1_4 (l1_4.length : Int) 0))))) else (none)))) = some r := h
 clear h
 replace H := Option.bind_eq_some_iff.mp H
 obtain ⟨t123, A30, H⟩ := H
 try dsimp only at H
 have A3 := am A30
 clear A30
 obtain ⟨y126, hy126⟩ : ∃ y_ : List Int, y_ = (([(a1_1) % 256] : List Int)) := ⟨_, rfl⟩
 replace H : (if t123.length + y126.length < 140737488355328 then ((some (t123 ++ y126 : List Int)).bind fun y129 => (if a1_1 = 1 then ((codec_zigzag.f a1_2).bind fun t132 => ((codec_putVarint.f k y129 t132).bind fun t133 => (some t133))) else (if a1_1 = 2 then ((codec_putVarint.f k y129 (IntKind.u64.wrap ((a1_3.size : Int)))).bind fun t136 => (if t136.length + a1_3.size < 140737488355328 then (some (t136 ++ bytesOf a1_3)) else (none))) else ((codec_putVarint.f k y129 (IntKind.u64.wrap ((l1_4.length : Int)))).bind fun t142 => (codec_put.l0 k t142 l1_4 (l1_4.length : Int) 0))))) else (none)) = some r := by first | (rw [hy126]; with_reducible exact H) | (have H2_ := (Option.bind_some _ _).symm.trans H; rw [hy126]; with_reducible exact H2_) | (have H2_ := (Option.bind_some _ _).symm.trans H; with_reducible exact H2_) | with_reducible exact H | (rw [hy126]; exact H) | exact H
 have Ny126 := am hy126
 clear hy126
 replace H := it_ H
 obtain ⟨c4, H⟩ := H
 have LMc4 := am c4
 clear c4
 obtain ⟨y129, hy129⟩ : ∃ y_ : List Int, y_ = (t123 ++ y126) := ⟨_, rfl⟩
 replace H : (if a1_1 = 1 then ((codec_zigzag.f a1_2).bind fun t132 => ((codec_putVarint.f k y129 t132).bind fun t133 => (some t133))) else (if a1_1 = 2 then ((codec_putVarint.f k y129 (IntKind.u64.wrap ((a1_3.size : Int)))).bind fun t136 => (if t136.length + a1_3.size < 140737488355328 then (some (t136 ++ bytesOf a1_3)) else (none))) else ((codec_putVarint.f k y129 (IntKind.u64.wrap ((l1_4.length : Int)))).bind fun t142 => (codec_put.l0 k t142 l1_4 (l1_4.length : Int) 0)))) = some r := by first | (rw [hy129]; with_reducible exact H) | (have H2_ := (Option.bind_some _ _).symm.trans H; rw [hy129]; with_reducible exact H2_) | (have H2_ := (Option.bind_some _ _).symm.trans H; with_reducible exact H2_) | with_reducible exact H | (rw [hy129]; exact H) | exact H
 have Ny129 := am hy129
 clear hy129
 by_cases c5 : a1_1 = 1
 ·
  rw [if_pos c5] at H
  have c5b0 : (a1_1 == 1) = true := beq_iff_eq.mpr c5
  have c5b1 : (a1_1 != 1) = false := bne_eq_false_iff_eq.mpr c5
  clear c5
  replace H := Option.bind_eq_some_iff.mp H
  obtain ⟨t132, A60, H⟩ := H
  try dsimp only at H
  have A6 := am A60
  clear A60
  replace H := Option.bind_eq_some_iff.mp H
  obtain ⟨t133, A70, H⟩ := H
  try dsimp only at H
  have A7 := am A70
  clear A70
  obtain rfl := Option.some.inj H
  go_enter Tryd.func43, Tryd.ntmps43
  try go_wp2_with (first | ((with_reducible refine gate_dst (N := 3) rfl ?_); refine box_event rfl (N := 3) rfl (cs := #[.int .i64 a1_0, .int .i64 a1_1, .int .i64 a1_2, .string a1_3, .slice A1_4 l1_4.length c1_4]) (t := 43) gz ?_; intro gb122 hg w8 hbox hb; replace HO0 := am (Kd.R_below (rz HO0.out) hb); have BK122 := am (hbox); have GW122 := am ((by rw [hg]; exact (by first | exact HK.out.1 | exact (show Kept w _ (fun k_ => P0_ k_) from by repeat (first | (with_reducible first | exact HK.out | apply Kept.alloc | apply Kept.drewN | apply Kept.drew) | exact HK.out)).1) : w.heap.size ≤ gb122)); replace HK := am (Kept.below (S := (fun k_ => P0_ k_)) (by repeat (first | (with_reducible first | exact HK.out | apply Kept.alloc | apply Kept.drewN | apply Kept.drew) | exact HK.out)) hb); have GE122 := am ((bs hg (hz HB.out) : w0.heap.size ≤ gb122)); replace HB := am (below_step (hz HB.out) hb); clear hb hbox hg; obtain ⟨Ao9, co9, eo9⟩ := Kd.R_slice HO0.out; subst eo9))
  replace HO0 := am (Kd.R_drew HO0.out)
  replace BK122 := am (blk_drew BK122.out)
  replace HK := am (Kept.drew HK.out)
  replace HB := am (below_drew1 HB.out)
  refine start_ (n := 11) (S := fun w' => w'.cell? ⟨gb122, 0, none⟩ = some (.int .i64 a1_0) ∧ w'.cell? ⟨gb122, 1, none⟩ = some (.int .i64 a1_1) ∧ w'.cell? ⟨gb122, 2, none⟩ = some (.int .i64 a1_2) ∧ w'.cell? ⟨gb122, 3, none⟩ = some (.string a1_3) ∧ w'.cell? ⟨gb122, 4, none⟩ = some (.slice A1_4 l1_4.length c1_4)) (ds := []) #[false, false, false, false, false, false, false, false, false, false, false] (by kernel_rfl) rfl rfl ⟨(blk_cell BK122.out 0).trans rfl, (blk_cell BK122.out 1).trans rfl, (blk_cell BK122.out 2).trans rfl, (blk_cell BK122.out 3).trans rfl, (blk_cell BK122.out 4).trans rfl⟩ (fun hHeld => ?_); refine with_tabW codec_put.tab1 codec_put.bits1 (fun HT_ HW_ => ?_)
  generalize w8.drew = w10 at HO0 BK122 HK HB hHeld ⊢
  refine pz 0 7 HT_.out ?_
  refine pz 1 8 HT_.out ?_
  refine pz 5 12 HT_.out ?_
  refine take_ (i := 2) (N := some 9) (v := ?_) (a' := ?_) #[true, true, true, false, false, true, false, false, false, false, false] rfl rfl (take_ofW HT_.out HW_.out (by kernel_rfl)) (fun _ _ _ h => h) (Or.inl ⟨by rfl, ?_⟩) hHeld ?_ ?_
  rotate_left
  ·
   rintro w' ⟨s0, s1, s2, s3, s4⟩
   go_simp
   with_reducible rfl
  rotate_left
  ·
   simp only [Act.put, List.setIfInBounds_toArray, List.set_cons_zero, List.set_cons_succ, i64_w, i32_w]
   rfl
  refine pz 3 10 HT_.out ?_
  refine take_ (i := 6) (N := some 13) (v := ?_) (a' := ?_) #[true, true, true, true, false, true, true, false, false, false, false] rfl rfl (take_ofW HT_.out HW_.out (by kernel_rfl)) (fun _ _ _ h => h) (Or.inl ⟨by rfl, ?_⟩) hHeld ?_ ?_
  rotate_left
  ·
   rintro w' ⟨s0, s1, s2, s3, s4⟩
   go_simp
   with_reducible rfl
  rotate_left
  ·
   simp only [Act.put, List.setIfInBounds_toArray, List.set_cons_zero, List.set_cons_succ, i64_w, i32_w]
   rfl
  refine pz 7 14 HT_.out ?_
  refine join_ (σ := Value × Value) 2 #[true, true, true, true, true, true, true, true, true, false, false] (fun s_ => [(11, s_.1), (15, s_.2)]) (fun s_ w' => (w'.cell? ⟨gb122, 0, none⟩ = some (.int .i64 a1_0) ∧ w'.cell? ⟨gb122, 1, none⟩ = some (.int .i64 a1_1) ∧ w'.cell? ⟨gb122, 2, none⟩ = some (.int .i64 a1_2) ∧ w'.cell? ⟨gb122, 3, none⟩ = some (.string a1_3) ∧ w'.cell? ⟨gb122, 4, none⟩ = some (.slice A1_4 l1_4.length c1_4)) ∧ (Kd.R (Kd.int .u8) 5 w' w0.heap.size (fun k_ => (P0_ k_ ∨ w.heap.size ≤ k_) ∧ some k_ ≠ (s_.2 : Value).ownBlock) s_.1 t123) ∧ (Kd.R (Kd.int .u8) 5 w' w0.heap.size (fun k_ => (P0_ k_ ∨ w.heap.size ≤ k_) ∧ some k_ ≠ (s_.1 : Value).ownBlock) s_.2 y126) ∧ (w'.heap[gb122]? = some (.cells #[.int .i64 a1_0, .int .i64 a1_1, .int .i64 a1_2, .string a1_3, .slice A1_4 l1_4.length c1_4] 43 (0, 0))) ∧ (Kept w w' (fun k_ => P0_ k_)) ∧ (Below w0.heap.size w0 w')) ?_ ?_
  rotate_left
  ·
   intro hCont
   refine two_ (i := 4) (j := 8) (Ni := some 11) (Nj := some 15) #[true, true, true, true, true, true, true, true, false, false, false] #[true, true, true, true, false, true, true, true, true, false, false] rfl rfl rfl rfl (two_of HT_.out (by kernel_rfl)) (by decide) (by decide) (fun K hK => ?_) (fun K hK => ?_)
   ·
    skip
    refine goes_ Tryd.func55 (by kernel_rfl) rfl #[.slice Ao9 l0.length co9, .int .u64 (IntKind.u64.wrap (a1_0))] (by rfl) rfl rfl lz ?_
    with_reducible refine (codec_putVarint.calls k (fun k_ => some k_ = (.slice Ao9 l0.length co9 : Value).ownBlock) (.slice Ao9 l0.length co9) l0 (IntKind.u64.wrap (a1_0)) t123 w0 _ ?side1 ?side2 A3.out).mono ?_
    (case side1 => exact hz1 HB.out GE122.out)
    (case side2 => exact Kd.R_tight rfl HO0.out)
    rintro e w11 ⟨v124, rfl, ho0, hb, hkp⟩
    refine ⟨_, rfl, ?_⟩
    replace BK122 := am (blk_kept (bz BK122.out) hkp (fun hs_ => (fun e_ => (Kd.R_ne HO0.out BK122.out (by decide)) e_) hs_))
    have HO125 := am (Kd.R_mono (ok' := fun k_ => (P0_ k_ ∨ w.heap.size ≤ k_)) ho0 (fun k_ hk_ => Or.elim hk_ (fun hs_ => (HO0.out.1 k_ (hs_).symm)) (fun hn_ => (.inr (Nat.le_trans (by first | exact HK.out.1 | exact (show Kept w _ (fun k_ => P0_ k_) from by repeat (first | (with_reducible first | exact HK.out | apply Kept.alloc | apply Kept.drewN | apply Kept.drew | refine Kept.setCell ?_ (.inr GW122.out) _) | exact HK.out)).1) hn_)))))
    replace HK := am (Kept.then_ (S := (fun k_ => P0_ k_)) (by repeat (first | (with_reducible first | exact HK.out | apply Kept.alloc | apply Kept.drewN | apply Kept.drew | refine Kept.setCell ?_ (.inr GW122.out) _) | exact HK.out)) hkp (fun k_ hs_ => (fun e_ => (HO0.out.1 k_ e_.symm)) hs_))
    replace HB := am (hb)
    clear HO0
    (try clear hb)
    (try clear hkp)
    (try clear ho0)
    refine hK.out _ _ ⟨(blk_cell BK122.out 0).trans rfl, (blk_cell BK122.out 1).trans rfl, (blk_cell BK122.out 2).trans rfl, (blk_cell BK122.out 3).trans rfl, (blk_cell BK122.out 4).trans rfl⟩ (fun hHeld => ?_)
    clear hK K
    refine norm_ (a' := ?_) ?_ ?_
    rotate_left
    ·
     show Act.put _ (some 11) _ = _
     simp only [Act.put, List.setIfInBounds_toArray, List.set_cons_zero, List.set_cons_succ, i64_w, i32_w]
     rfl
    refine oz 8 15 HT_.out (fun K hK => ?_)
    refine Kd.R_lit_step (Kd.int .u8) _ 5 ?hg (N := 15) ?hd (xs := ([(a1_1) % 256] : List Int)) (inner := [.int .u8 ((a1_1) % 256)]) (ok := fun _ => True) (okp := fun _ => True) ?hr ?hp (fun _ hk => hk) trivial (Below.refl _ _) (Nat.le_refl _) (by simp) ?_; (case hd => rfl); (case hg => rfl); (case hr => exact gz); (case hp => exact (Reps.one (show Kd.M (Kd.int .u8) _ _ _ ((a1_1) % 256) [.int .u8 ((a1_1) % 256)] from rfl) (Reps.none _ _)))
    intro v127 w12 ho13 hb hg_ hnew_
    clear hg_ hnew_
    (first | rw [← Ny126.out] at ho13 | (simp only [Int.reduceToNat] at ho13; rw [← Ny126.out] at ho13))
    have HO128 := am (Kd.R_lower (Kd.R_new' (Kd.R_newM (M := fun k_ => (P0_ k_ ∨ w.heap.size ≤ k_)) ho13 (by first | exact HK.out.1 | exact (show Kept w _ (fun k_ => P0_ k_) from by repeat (first | (with_reducible first | exact HK.out | apply Kept.alloc | apply Kept.drewN | apply Kept.drew | refine Kept.setCell ?_ (.inr GW122.out) _) | exact HK.out)).1) (fun k_ h_ => .inr h_)) (Kd.R_lt (rz HO125.out))) (below_size (hz1 HB.out GE122.out)))
    replace HO125 := am (Kd.R_elder' (rz HO125.out) (Kd.R_base ho13) hb)
    replace BK122 := am (blk_below (bz BK122.out) hb)
    replace HK := am (Kept.below (S := (fun k_ => P0_ k_)) (by repeat (first | (with_reducible first | exact HK.out | apply Kept.alloc | apply Kept.drewN | apply Kept.drew | refine Kept.setCell ?_ (.inr GW122.out) _) | exact HK.out)) hb)
    replace HB := am (below_step (hz1 HB.out GE122.out) hb)
    clear hb ho13
    refine hK.out _ _ ⟨(blk_cell BK122.out 0).trans rfl, (blk_cell BK122.out 1).trans rfl, (blk_cell BK122.out 2).trans rfl, (blk_cell BK122.out 3).trans rfl, (blk_cell BK122.out 4).trans rfl⟩ (fun hHeld => ?_)
    clear hK K
    refine norm_ (a' := ?_) ?_ ?_
    rotate_left
    ·
     show Act.put _ (some 15) _ = _
     simp only [Act.put, List.setIfInBounds_toArray, List.set_cons_zero, List.set_cons_succ, i64_w, i32_w]
     rfl
    exact norm_ (by simp only [putAll, Act.put, List.setIfInBounds_toArray, List.set_cons_zero, List.set_cons_succ]) (hCont (v124, v127) _ ⟨hHeld, (rz HO125.out), (rz (Kd.R_mono HO128.out (fun _ hk => ⟨hk.1.1, hk.2⟩))), (bz BK122.out), (by repeat (first | (with_reducible first | exact HK.out | apply Kept.alloc | apply Kept.drewN | apply Kept.drew | refine Kept.setCell ?_ (.inr GW122.out) _) | exact HK.out)), (hz1 HB.out GE122.out)⟩)
   ·
    skip
    refine Kd.R_lit_step (Kd.int .u8) _ 5 ?hg (N := 15) ?hd (xs := ([(a1_1) % 256] : List Int)) (inner := [.int .u8 ((a1_1) % 256)]) (ok := fun _ => True) (okp := fun _ => True) ?hr ?hp (fun _ hk => hk) trivial (Below.refl _ _) (Nat.le_refl _) (by simp) ?_; (case hd => rfl); (case hg => rfl); (case hr => exact gz); (case hp => exact (Reps.one (show Kd.M (Kd.int .u8) _ _ _ ((a1_1) % 256) [.int .u8 ((a1_1) % 256)] from rfl) (Reps.none _ _)))
    intro v127 w11 ho12 hb hg_ hnew_
    clear hg_ hnew_
    (first | rw [← Ny126.out] at ho12 | (simp only [Int.reduceToNat] at ho12; rw [← Ny126.out] at ho12))
    have HO128 := am (Kd.R_lower (Kd.R_new' (Kd.R_newM (M := fun k_ => (P0_ k_ ∨ w.heap.size ≤ k_)) ho12 (by first | exact HK.out.1 | exact (show Kept w _ (fun k_ => P0_ k_) from by repeat (first | (with_reducible first | exact HK.out | apply Kept.alloc | apply Kept.drewN | apply Kept.drew | refine Kept.setCell ?_ (.inr GW122.out) _) | exact HK.out)).1) (fun k_ h_ => .inr h_)) (Kd.R_lt (rz HO0.out))) (below_size (hz1 HB.out GE122.out)))
    replace HO0 := am (Kd.R_elder' (rz HO0.out) (Kd.R_base ho12) hb)
    replace BK122 := am (blk_below (bz BK122.out) hb)
    replace HK := am (Kept.below (S := (fun k_ => P0_ k_)) (by repeat (first | (with_reducible first | exact HK.out | apply Kept.alloc | apply Kept.drewN | apply Kept.drew | refine Kept.setCell ?_ (.inr GW122.out) _) | exact HK.out)) hb)
    replace HB := am (below_step (hz1 HB.out GE122.out) hb)
    clear hb ho12
    refine hK.out _ _ ⟨(blk_cell BK122.out 0).trans rfl, (blk_cell BK122.out 1).trans rfl, (blk_cell BK122.out 2).trans rfl, (blk_cell BK122.out 3).trans rfl, (blk_cell BK122.out 4).trans rfl⟩ (fun hHeld => ?_)
    clear hK K
    refine norm_ (a' := ?_) ?_ ?_
    rotate_left
    ·
     show Act.put _ (some 15) _ = _
     simp only [Act.put, List.setIfInBounds_toArray, List.set_cons_zero, List.set_cons_succ, i64_w, i32_w]
     rfl
    refine oz 4 11 HT_.out (fun K hK => ?_)
    refine goes_ Tryd.func55 (by kernel_rfl) rfl #[.slice Ao9 l0.length co9, .int .u64 (IntKind.u64.wrap (a1_0))] (by rfl) rfl rfl lz ?_
    with_reducible refine (codec_putVarint.calls k (fun k_ => some k_ = (.slice Ao9 l0.length co9 : Value).ownBlock) (.slice Ao9 l0.length co9) l0 (IntKind.u64.wrap (a1_0)) t123 w0 _ ?side1 ?side2 A3.out).mono ?_
    (case side1 => exact hz1 HB.out GE122.out)
    (case side2 => exact Kd.R_tight rfl HO0.out)
    rintro e w13 ⟨v124, rfl, ho0, hb, hkp⟩
    refine ⟨_, rfl, ?_⟩
    replace BK122 := am (blk_kept (bz BK122.out) hkp (fun hs_ => (fun e_ => (Kd.R_ne HO0.out BK122.out (by decide)) e_) hs_))
    have HO125 := am (Kd.R_mono (ok' := fun k_ => (P0_ k_ ∨ w.heap.size ≤ k_) ∧ some k_ ≠ (v127 : Value).ownBlock) ho0 (fun k_ hk_ => ⟨Or.elim hk_ (fun hs_ => (HO0.out.1 k_ (hs_).symm).1) (fun hn_ => (.inr (Nat.le_trans (by first | exact HK.out.1 | exact (show Kept w _ (fun k_ => P0_ k_) from by repeat (first | (with_reducible first | exact HK.out | apply Kept.alloc | apply Kept.drewN | apply Kept.drew | refine Kept.setCell ?_ (.inr GW122.out) _) | exact HK.out)).1) hn_))), Or.elim hk_ (fun hs_ => fun e_ => (((HO128.out).1 k_ e_.symm).2) hs_) (fun hn_ => (Kd.fresh' (Kd.R_lt (rz HO128.out)) k_ hn_))⟩))
    replace HO128 := am (Kd.R_mono (ok' := fun k_ => (P0_ k_ ∨ w.heap.size ≤ k_) ∧ some k_ ≠ (v124 : Value).ownBlock) (Kd.R_keptB (HO128.out) hkp (fun k_ hk_ hs_ => (hk_.2) hs_)) (fun k_ hk_ => ⟨hk_.1.1.1, fun e_ => Or.elim (ho0.1 k_ e_.symm) (fun hs_ => hk_.2.1 hs_) (fun hn_ => Nat.not_le.2 hk_.2.2 hn_)⟩))
    replace HK := am (Kept.then_ (S := (fun k_ => P0_ k_)) (by repeat (first | (with_reducible first | exact HK.out | apply Kept.alloc | apply Kept.drewN | apply Kept.drew | refine Kept.setCell ?_ (.inr GW122.out) _) | exact HK.out)) hkp (fun k_ hs_ => (fun e_ => (HO0.out.1 k_ e_.symm).1) hs_))
    replace HB := am (hb)
    clear HO0
    (try clear hb)
    (try clear hkp)
    (try clear ho0)
    refine hK.out _ _ ⟨(blk_cell BK122.out 0).trans rfl, (blk_cell BK122.out 1).trans rfl, (blk_cell BK122.out 2).trans rfl, (blk_cell BK122.out 3).trans rfl, (blk_cell BK122.out 4).trans rfl⟩ (fun hHeld => ?_)
    clear hK K
    refine norm_ (a' := ?_) ?_ ?_
    rotate_left
    ·
     show Act.put _ (some 11) _ = _
     simp only [Act.put, List.setIfInBounds_toArray, List.set_cons_zero, List.set_cons_succ, i64_w, i32_w]
     rfl
    exact norm_ (by simp only [putAll, Act.put, List.setIfInBounds_toArray, List.set_cons_zero, List.set_cons_succ]) (hCont (v124, v127) _ ⟨hHeld, (rz HO125.out), (rz HO128.out), (bz BK122.out), (by repeat (first | (with_reducible first | exact HK.out | apply Kept.alloc | apply Kept.drewN | apply Kept.drew | refine Kept.setCell ?_ (.inr GW122.out) _) | exact HK.out)), (hz1 HB.out GE122.out)⟩)
  rintro ⟨v124, v127⟩ w14 ⟨hS_, h0_, h1_, h2_, h3_, h4_⟩
  have n0_ : Aside0 (Kd.R (Kd.int .u8) 5 w14 w0.heap.size (fun k_ => (P0_ k_ ∨ w.heap.size ≤ k_) ∧ some k_ ≠ (v127 : Value).ownBlock) v124 t123) := ⟨h0_⟩
  have n1_ : Aside0 (Kd.R (Kd.int .u8) 5 w14 w0.heap.size (fun k_ => (P0_ k_ ∨ w.heap.size ≤ k_) ∧ some k_ ≠ (v124 : Value).ownBlock) v127 y126) := ⟨h1_⟩
  have n2_ : Aside0 (w14.heap[gb122]? = some (.cells #[.int .i64 a1_0, .int .i64 a1_1, .int .i64 a1_2, .string a1_3, .slice A1_4 l1_4.length c1_4] 43 (0, 0))) := ⟨h2_⟩
  have n3_ : Aside0 (Kept w w14 (fun k_ => P0_ k_)) := ⟨h3_⟩
  have n4_ : Aside0 (Below w0.heap.size w0 w14) := ⟨h4_⟩
  clear HO0
  clear BK122
  clear HK
  clear HB
  clear h0_ h1_ h2_ h3_ h4_
  have HO125 := n0_
  have HO128 := n1_
  have BK122 := n2_
  have HK := n3_
  have HB := n4_
  clear n0_ n1_ n2_ n3_ n4_
  have hHeld : w14.cell? ⟨gb122, 0, none⟩ = some (.int .i64 a1_0) ∧ w14.cell? ⟨gb122, 1, none⟩ = some (.int .i64 a1_1) ∧ w14.cell? ⟨gb122, 2, none⟩ = some (.int .i64 a1_2) ∧ w14.cell? ⟨gb122, 3, none⟩ = some (.string a1_3) ∧ w14.cell? ⟨gb122, 4, none⟩ = some (.slice A1_4 l1_4.length c1_4) := hS_
  obtain ⟨Ao16, co16, eo16⟩ := Kd.R_slice HO128.out
  (first | subst eo16 | (injection eo16 with f1_ f2_ f3_; have f4_ := f1_.symm; have f5_ := f3_.symm; clear f1_ f2_ f3_; subst f4_; subst f5_))
  refine norm_ (a' := ?_) ?_ ?_
  rotate_left
  ·
   simp only [putAll, Act.put, List.setIfInBounds_toArray, List.set_cons_zero, List.set_cons_succ]
   rfl
  refine oz 9 16 HT_.out (fun K hK => ?_)
  refine Kd.R_append_rows_step (Kd.int .u8) (w0 := w0) w0.heap.size (by rfl) (.tmp 11) (.tmp 15) 24 5 (.int .u8 0) 1 rfl Tryd.underlying24 info5 rfl (by decide) (by omega) v124 t123 y126 _ _ _ (fun k_ => (P0_ k_ ∨ w.heap.size ≤ k_) ∧ some k_ ≠ (.slice Ao16 y126.length co16 : Value).ownBlock) (fun _ => False) rfl rfl ?aO ?aR (fun _ _ h => h) (fun _ h => h.elim) ?aF ?aB ?aS ?aL ?_
  (case aR => exact cz (Kd.R_reads' HO128.out).2.2)
  (case aB => exact (hz1 HB.out GE122.out))
  (case aF => exact (fun k_ hk => ⟨(.inr (Nat.le_trans (by first | exact HK.out.1 | exact (show Kept w _ (fun k_ => P0_ k_) from by repeat (first | (with_reducible first | exact HK.out | apply Kept.alloc | apply Kept.drewN | apply Kept.drew | refine Kept.setCell ?_ (.inr GW122.out) _) | exact HK.out)).1) hk)), Kd.fresh' (Kd.R_lt (rz HO128.out)) k_ hk⟩))
  (case aO => exact (rz HO125.out))
  (case aS => exact (below_size (hz1 HB.out GE122.out)))
  (case aL => have := LMc4.out; omega)
  intro v130 w15 ho hb hg hat
  rw [← Ny129.out] at ho
  replace BK122 := am (blk_grown (bz BK122.out) hg (Kd.R_ne HO125.out BK122.out (by decide)))
  replace HO128 := am (Kd.R_after (ok := (fun k_ => (P0_ k_ ∨ w.heap.size ≤ k_))) (rz HO128.out) hg hat)
  replace HB := am (hb)
  replace HK := am (Kept.of_grown (S := (fun k_ => P0_ k_)) hg (by repeat (first | (with_reducible first | exact HK.out | apply Kept.alloc | apply Kept.drewN | apply Kept.drew | refine Kept.setCell ?_ (.inr GW122.out) _) | exact HK.out)) (fun k_ e_ => (HO125.out.1 k_ e_).1))
  have HO131 := am (ho)
  clear HO125
  clear ho hb hg hat
  refine hK.out _ _ ⟨(blk_cell BK122.out 0).trans rfl, (blk_cell BK122.out 1).trans rfl, (blk_cell BK122.out 2).trans rfl, (blk_cell BK122.out 3).trans rfl, (blk_cell BK122.out 4).trans rfl⟩ (fun hHeld => ?_)
  clear hK K
  refine norm_ (a' := ?_) ?_ ?_
  rotate_left
  ·
   show Act.put _ (some 16) _ = _
   simp only [Act.put, List.setIfInBounds_toArray, List.set_cons_zero, List.set_cons_succ, i64_w, i32_w]
   rfl
  refine pz 10 0 HT_.out ?_
  refine done_ (done_of HT_.out (by kernel_rfl)) ?_
  have hcz17_0 : w15.cell? ⟨gb122, 0, none⟩ = some (.int .i64 a1_0) := (blk_cell BK122.out 0).trans rfl
  have hcz17_1 : w15.cell? ⟨gb122, 1, none⟩ = some (.int .i64 a1_1) := (blk_cell BK122.out 1).trans rfl
  have hcz17_2 : w15.cell? ⟨gb122, 2, none⟩ = some (.int .i64 a1_2) := (blk_cell BK122.out 2).trans rfl
  have hcz17_3 : w15.cell? ⟨gb122, 3, none⟩ = some (.string a1_3) := (blk_cell BK122.out 3).trans rfl
  have hcz17_4 : w15.cell? ⟨gb122, 4, none⟩ = some (.slice A1_4 l1_4.length c1_4) := (blk_cell BK122.out 4).trans rfl
  have hfz17_0 := blk_frozen BK122.out 0
  have hfz17_1 := blk_frozen BK122.out 1
  have hfz17_2 := blk_frozen BK122.out 2
  have hfz17_3 := blk_frozen BK122.out 3
  have hfz17_4 := blk_frozen BK122.out 4
  try go_wp2_with (first | ((with_reducible refine gate_callee (f := 54) rfl ?_); refine goesL_ (some 24) rfl rfl Tryd.func54 (by kernel_rfl) rfl #[.int .i64 a1_2] rfl lz ?_; (with_reducible refine (codec_zigzag.calls a1_2 t132 _ A6.out).mono ?_); rintro e w' ⟨rfl, ⟨nd, rfl⟩⟩; refine ⟨_, rfl, ?_⟩; obtain ⟨Ao18, co18, eo18⟩ := Kd.R_slice HO131.out; subst eo18) | ((with_reducible refine gate_callee (f := 55) rfl ?_); refine goesL_ (some 25) rfl rfl Tryd.func55 (by kernel_rfl) rfl #[.slice Ao18 y129.length co18, .int .u64 t132] rfl lz ?_; (with_reducible refine (codec_putVarint.calls k (fun k_ => some k_ = (.slice Ao18 y129.length co18 : Value).ownBlock) (.slice Ao18 y129.length co18) y129 t132 t133 w0 _ ?side1 ?side2 A7.out).mono ?_); (case side1 => exact hz1 HB.out GE122.out); (case side2 => exact Kd.R_tight rfl HO131.out); rintro e w19 ⟨v134, rfl, ho0, hb, hkp⟩; refine ⟨_, rfl, ?_⟩; replace BK122 := am (blk_kept (bz BK122.out) hkp (fun hs_ => (fun e_ => (Kd.R_ne HO131.out BK122.out (by decide)) e_) hs_)); have HO135 := am (Kd.R_mono (ok' := fun k_ => (P0_ k_ ∨ w.heap.size ≤ k_) ∧ some k_ ≠ (.slice Ao16 y126.length co16 : Value).ownBlock) ho0 (fun k_ hk_ => ⟨Or.elim hk_ (fun hs_ => (HO131.out.1 k_ (hs_).symm).1) (fun hn_ => (.inr (Nat.le_trans (by first | exact HK.out.1 | exact (show Kept w _ (fun k_ => P0_ k_) from by repeat (first | (with_reducible first | exact HK.out | apply Kept.alloc | apply Kept.drewN | apply Kept.drew | refine Kept.setCell ?_ (.inr GW122.out) _) | exact HK.out)).1) hn_))), Or.elim hk_ (fun hs_ => fun e_ => (((HO128.out).1 k_ e_.symm).2) hs_) (fun hn_ => (Kd.fresh' (Kd.R_lt (rz HO128.out)) k_ hn_))⟩)); replace HO128 := am (Kd.R_mono (ok' := fun k_ => (P0_ k_ ∨ w.heap.size ≤ k_) ∧ some k_ ≠ (v134 : Value).ownBlock) (Kd.R_keptB (HO128.out) hkp (fun k_ hk_ hs_ => (hk_.2) hs_)) (fun k_ hk_ => ⟨hk_.1.1, fun e_ => Or.elim (ho0.1 k_ e_.symm) (fun hs_ => hk_.2.1 hs_) (fun hn_ => Nat.not_le.2 hk_.2.2 hn_)⟩)); replace HK := am (Kept.then_ (S := (fun k_ => P0_ k_)) (by repeat (first | (with_reducible first | exact HK.out | apply Kept.alloc | apply Kept.drewN | apply Kept.drew | refine Kept.setCell ?_ (.inr GW122.out) _) | exact HK.out)) hkp (fun k_ hs_ => (fun e_ => (HO131.out.1 k_ e_.symm).1) hs_)); replace HB := am (hb); clear HO131; (try clear hb); (try clear hkp); (try clear ho0)))
  go_ret
  exact ⟨_, ew, by (with_reducible repeat (first | apply Kd.R_alloc | apply Kd.R_drewN | apply Kd.R_drew)); exact Kd.R_mono HO135.out (fun _ hk => hk.1), hz1 HB.out GE122.out, by repeat (first | (with_reducible first | exact HK.out | apply Kept.alloc | apply Kept.drewN | apply Kept.drew | refine Kept.setCell ?_ (.inr GW122.out) _) | exact HK.out)⟩
 ·
  rw [if_neg c5] at H
  have c5b0 : (a1_1 == 1) = false := beq_eq_false_iff_ne.mpr c5
  have c5b1 : (a1_1 != 1) = true := bne_iff_ne.mpr c5
  by_cases c20 : a1_1 = 2
  ·
   rw [if_pos c20] at H
   have c20b0 : (a1_1 == 2) = true := beq_iff_eq.mpr c20
   have c20b1 : (a1_1 != 2) = false := bne_eq_false_iff_eq.mpr c20
   clear c20
   replace H := Option.bind_eq_some_iff.mp H
   obtain ⟨t136, A210, H⟩ := H
   try dsimp only at H
   have A21 := am A210
   clear A210
   replace H := it_ H
   obtain ⟨c22, H⟩ := H
   have LMc22 := am c22
   clear c22
   obtain ⟨y139, hy139⟩ : ∃ y_ : List Int, y_ = (t136 ++ bytesOf a1_3) := ⟨_, rfl⟩
   replace H : (some y139) = some r := by first | (rw [hy139]; with_reducible exact H) | (have H2_ := (Option.bind_some _ _).symm.trans H; rw [hy139]; with_reducible exact H2_) | (have H2_ := (Option.bind_some _ _).symm.trans H; with_reducible exact H2_) | with_reducible exact H | (rw [hy139]; exact H) | exact H
   have Ny139 := am hy139
   clear hy139
   obtain rfl := Option.some.inj H
   go_enter Tryd.func43, Tryd.ntmps43
   try go_wp2_with (first | ((with_reducible refine gate_dst (N := 3) rfl ?_); refine box_event rfl (N := 3) rfl (cs := #[.int .i64 a1_0, .int .i64 a1_1, .int .i64 a1_2, .string a1_3, .slice A1_4 l1_4.length c1_4]) (t := 43) gz ?_; intro gb122 hg w23 hbox hb; replace HO0 := am (Kd.R_below (rz HO0.out) hb); have BK122 := am (hbox); have GW122 := am ((by rw [hg]; exact (by first | exact HK.out.1 | exact (show Kept w _ (fun k_ => P0_ k_) from by repeat (first | (with_reducible first | exact HK.out | apply Kept.alloc | apply Kept.drewN | apply Kept.drew) | exact HK.out)).1) : w.heap.size ≤ gb122)); replace HK := am (Kept.below (S := (fun k_ => P0_ k_)) (by repeat (first | (with_reducible first | exact HK.out | apply Kept.alloc | apply Kept.drewN | apply Kept.drew) | exact HK.out)) hb); have GE122 := am ((bs hg (hz HB.out) : w0.heap.size ≤ gb122)); replace HB := am (below_step (hz HB.out) hb); clear hb hbox hg; obtain ⟨Ao24, co24, eo24⟩ := Kd.R_slice HO0.out; subst eo24))
   replace HO0 := am (Kd.R_drew HO0.out)
   replace BK122 := am (blk_drew BK122.out)
   replace HK := am (Kept.drew HK.out)
   replace HB := am (below_drew1 HB.out)
   refine start_ (n := 11) (S := fun w' => w'.cell? ⟨gb122, 0, none⟩ = some (.int .i64 a1_0) ∧ w'.cell? ⟨gb122, 1, none⟩ = some (.int .i64 a1_1) ∧ w'.cell? ⟨gb122, 2, none⟩ = some (.int .i64 a1_2) ∧ w'.cell? ⟨gb122, 3, none⟩ = some (.string a1_3) ∧ w'.cell? ⟨gb122, 4, none⟩ = some (.slice A1_4 l1_4.length c1_4)) (ds := []) #[false, false, false, false, false, false, false, false, false, false, false] (by kernel_rfl) rfl rfl ⟨(blk_cell BK122.out 0).trans rfl, (blk_cell BK122.out 1).trans rfl, (blk_cell BK122.out 2).trans rfl, (blk_cell BK122.out 3).trans rfl, (blk_cell BK122.out 4).trans rfl⟩ (fun hHeld => ?_); refine with_tabW codec_put.tab1 codec_put.bits1 (fun HT_ HW_ => ?_)
   generalize w23.drew = w25 at HO0 BK122 HK HB hHeld ⊢
   refine pz 0 7 HT_.out ?_
   refine pz 1 8 HT_.out ?_
   refine pz 5 12 HT_.out ?_
   refine take_ (i := 2) (N := some 9) (v := ?_) (a' := ?_) #[true, true, true, false, false, true, false, false, false, false, false] rfl rfl (take_ofW HT_.out HW_.out (by kernel_rfl)) (fun _ _ _ h => h) (Or.inl ⟨by rfl, ?_⟩) hHeld ?_ ?_
   rotate_left
   ·
    rintro w' ⟨s0, s1, s2, s3, s4⟩
    go_simp
    with_reducible rfl
   rotate_left
   ·
    simp only [Act.put, List.setIfInBounds_toArray, List.set_cons_zero, List.set_cons_succ, i64_w, i32_w]
    rfl
   refine pz 3 10 HT_.out ?_
   refine take_ (i := 6) (N := some 13) (v := ?_) (a' := ?_) #[true, true, true, true, false, true, true, false, false, false, false] rfl rfl (take_ofW HT_.out HW_.out (by kernel_rfl)) (fun _ _ _ h => h) (Or.inl ⟨by rfl, ?_⟩) hHeld ?_ ?_
   rotate_left
   ·
    rintro w' ⟨s0, s1, s2, s3, s4⟩
    go_simp
    with_reducible rfl
   rotate_left
   ·
    simp only [Act.put, List.setIfInBounds_toArray, List.set_cons_zero, List.set_cons_succ, i64_w, i32_w]
    rfl
   refine pz 7 14 HT_.out ?_
   refine join_ (σ := Value × Value) 2 #[true, true, true, true, true, true, true, true, true, false, false] (fun s_ => [(11, s_.1), (15, s_.2)]) (fun s_ w' => (w'.cell? ⟨gb122, 0, none⟩ = some (.int .i64 a1_0) ∧ w'.cell? ⟨gb122, 1, none⟩ = some (.int .i64 a1_1) ∧ w'.cell? ⟨gb122, 2, none⟩ = some (.int .i64 a1_2) ∧ w'.cell? ⟨gb122, 3, none⟩ = some (.string a1_3) ∧ w'.cell? ⟨gb122, 4, none⟩ = some (.slice A1_4 l1_4.length c1_4)) ∧ (Kd.R (Kd.int .u8) 5 w' w0.heap.size (fun k_ => (P0_ k_ ∨ w.heap.size ≤ k_) ∧ some k_ ≠ (s_.2 : Value).ownBlock) s_.1 t123) ∧ (Kd.R (Kd.int .u8) 5 w' w0.heap.size (fun k_ => (P0_ k_ ∨ w.heap.size ≤ k_) ∧ some k_ ≠ (s_.1 : Value).ownBlock) s_.2 y126) ∧ (w'.heap[gb122]? = some (.cells #[.int .i64 a1_0, .int .i64 a1_1, .int .i64 a1_2, .string a1_3, .slice A1_4 l1_4.length c1_4] 43 (0, 0))) ∧ (Kept w w' (fun k_ => P0_ k_)) ∧ (Below w0.heap.size w0 w')) ?_ ?_
   rotate_left
   ·
    intro hCont
    refine two_ (i := 4) (j := 8) (Ni := some 11) (Nj := some 15) #[true, true, true, true, true, true, true, true, false, false, false] #[true, true, true, true, false, true, true, true, true, false, false] rfl rfl rfl rfl (two_of HT_.out (by kernel_rfl)) (by decide) (by decide) (fun K hK => ?_) (fun K hK => ?_)
    ·
     skip
     refine goes_ Tryd.func55 (by kernel_rfl) rfl #[.slice Ao24 l0.length co24, .int .u64 (IntKind.u64.wrap (a1_0))] (by rfl) rfl rfl lz ?_
     with_reducible refine (codec_putVarint.calls k (fun k_ => some k_ = (.slice Ao24 l0.length co24 : Value).ownBlock) (.slice Ao24 l0.length co24) l0 (IntKind.u64.wrap (a1_0)) t123 w0 _ ?side1 ?side2 A3.out).mono ?_
     (case side1 => exact hz1 HB.out GE122.out)
     (case side2 => exact Kd.R_tight rfl HO0.out)
     rintro e w26 ⟨v124, rfl, ho0, hb, hkp⟩
     refine ⟨_, rfl, ?_⟩
     replace BK122 := am (blk_kept (bz BK122.out) hkp (fun hs_ => (fun e_ => (Kd.R_ne HO0.out BK122.out (by decide)) e_) hs_))
     have HO125 := am (Kd.R_mono (ok' := fun k_ => (P0_ k_ ∨ w.heap.size ≤ k_)) ho0 (fun k_ hk_ => Or.elim hk_ (fun hs_ => (HO0.out.1 k_ (hs_).symm)) (fun hn_ => (.inr (Nat.le_trans (by first | exact HK.out.1 | exact (show Kept w _ (fun k_ => P0_ k_) from by repeat (first | (with_reducible first | exact HK.out | apply Kept.alloc | apply Kept.drewN | apply Kept.drew | refine Kept.setCell ?_ (.inr GW122.out) _) | exact HK.out)).1) hn_)))))
     replace HK := am (Kept.then_ (S := (fun k_ => P0_ k_)) (by repeat (first | (with_reducible first | exact HK.out | apply Kept.alloc | apply Kept.drewN | apply Kept.drew | refine Kept.setCell ?_ (.inr GW122.out) _) | exact HK.out)) hkp (fun k_ hs_ => (fun e_ => (HO0.out.1 k_ e_.symm)) hs_))
     replace HB := am (hb)
     clear HO0
     (try clear hb)
     (try clear hkp)
     (try clear ho0)
     refine hK.out _ _ ⟨(blk_cell BK122.out 0).trans rfl, (blk_cell BK122.out 1).trans rfl, (blk_cell BK122.out 2).trans rfl, (blk_cell BK122.out 3).trans rfl, (blk_cell BK122.out 4).trans rfl⟩ (fun hHeld => ?_)
     clear hK K
     refine norm_ (a' := ?_) ?_ ?_
     rotate_left
     ·
      show Act.put _ (some 11) _ = _
      simp only [Act.put, List.setIfInBounds_toArray, List.set_cons_zero, List.set_cons_succ, i64_w, i32_w]
      rfl
     refine oz 8 15 HT_.out (fun K hK => ?_)
     refine Kd.R_lit_step (Kd.int .u8) _ 5 ?hg (N := 15) ?hd (xs := ([(a1_1) % 256] : List Int)) (inner := [.int .u8 ((a1_1) % 256)]) (ok := fun _ => True) (okp := fun _ => True) ?hr ?hp (fun _ hk => hk) trivial (Below.refl _ _) (Nat.le_refl _) (by simp) ?_; (case hd => rfl); (case hg => rfl); (case hr => exact gz); (case hp => exact (Reps.one (show Kd.M (Kd.int .u8) _ _ _ ((a1_1) % 256) [.int .u8 ((a1_1) % 256)] from rfl) (Reps.none _ _)))
     intro v127 w27 ho28 hb hg_ hnew_
     clear hg_ hnew_
     (first | rw [← Ny126.out] at ho28 | (simp only [Int.reduceToNat] at ho28; rw [← Ny126.out] at ho28))
     have HO128 := am (Kd.R_lower (Kd.R_new' (Kd.R_newM (M := fun k_ => (P0_ k_ ∨ w.heap.size ≤ k_)) ho28 (by first | exact HK.out.1 | exact (show Kept w _ (fun k_ => P0_ k_) from by repeat (first | (with_reducible first | exact HK.out | apply Kept.alloc | apply Kept.drewN | apply Kept.drew | refine Kept.setCell ?_ (.inr GW122.out) _) | exact HK.out)).1) (fun k_ h_ => .inr h_)) (Kd.R_lt (rz HO125.out))) (below_size (hz1 HB.out GE122.out)))
     replace HO125 := am (Kd.R_elder' (rz HO125.out) (Kd.R_base ho28) hb)
     replace BK122 := am (blk_below (bz BK122.out) hb)
     replace HK := am (Kept.below (S := (fun k_ => P0_ k_)) (by repeat (first | (with_reducible first | exact HK.out | apply Kept.alloc | apply Kept.drewN | apply Kept.drew | refine Kept.setCell ?_ (.inr GW122.out) _) | exact HK.out)) hb)
     replace HB := am (below_step (hz1 HB.out GE122.out) hb)
     clear hb ho28
     refine hK.out _ _ ⟨(blk_cell BK122.out 0).trans rfl, (blk_cell BK122.out 1).trans rfl, (blk_cell BK122.out 2).trans rfl, (blk_cell BK122.out 3).trans rfl, (blk_cell BK122.out 4).trans rfl⟩ (fun hHeld => ?_)
     clear hK K
     refine norm_ (a' := ?_) ?_ ?_
     rotate_left
     ·
      show Act.put _ (some 15) _ = _
      simp only [Act.put, List.setIfInBounds_toArray, List.set_cons_zero, List.set_cons_succ, i64_w, i32_w]
      rfl
     exact norm_ (by simp only [putAll, Act.put, List.setIfInBounds_toArray, List.set_cons_zero, List.set_cons_succ]) (hCont (v124, v127) _ ⟨hHeld, (rz HO125.out), (rz (Kd.R_mono HO128.out (fun _ hk => ⟨hk.1.1, hk.2⟩))), (bz BK122.out), (by repeat (first | (with_reducible first | exact HK.out | apply Kept.alloc | apply Kept.drewN | apply Kept.drew | refine Kept.setCell ?_ (.inr GW122.out) _) | exact HK.out)), (hz1 HB.out GE122.out)⟩)
    ·
     skip
     refine Kd.R_lit_step (Kd.int .u8) _ 5 ?hg (N := 15) ?hd (xs := ([(a1_1) % 256] : List Int)) (inner := [.int .u8 ((a1_1) % 256)]) (ok := fun _ => True) (okp := fun _ => True) ?hr ?hp (fun _ hk => hk) trivial (Below.refl _ _) (Nat.le_refl _) (by simp) ?_; (case hd => rfl); (case hg => rfl); (case hr => exact gz); (case hp => exact (Reps.one (show Kd.M (Kd.int .u8) _ _ _ ((a1_1) % 256) [.int .u8 ((a1_1) % 256)] from rfl) (Reps.none _ _)))
     intro v127 w26 ho27 hb hg_ hnew_
     clear hg_ hnew_
     (first | rw [← Ny126.out] at ho27 | (simp only [Int.reduceToNat] at ho27; rw [← Ny126.out] at ho27))
     have HO128 := am (Kd.R_lower (Kd.R_new' (Kd.R_newM (M := fun k_ => (P0_ k_ ∨ w.heap.size ≤ k_)) ho27 (by first | exact HK.out.1 | exact (show Kept w _ (fun k_ => P0_ k_) from by repeat (first | (with_reducible first | exact HK.out | apply Kept.alloc | apply Kept.drewN | apply Kept.drew | refine Kept.setCell ?_ (.inr GW122.out) _) | exact HK.out)).1) (fun k_ h_ => .inr h_)) (Kd.R_lt (rz HO0.out))) (below_size (hz1 HB.out GE122.out)))
     replace HO0 := am (Kd.R_elder' (rz HO0.out) (Kd.R_base ho27) hb)
     replace BK122 := am (blk_below (bz BK122.out) hb)
     replace HK := am (Kept.below (S := (fun k_ => P0_ k_)) (by repeat (first | (with_reducible first | exact HK.out | apply Kept.alloc | apply Kept.drewN | apply Kept.drew | refine Kept.setCell ?_ (.inr GW122.out) _) | exact HK.out)) hb)
     replace HB := am (below_step (hz1 HB.out GE122.out) hb)
     clear hb ho27
     refine hK.out _ _ ⟨(blk_cell BK122.out 0).trans rfl, (blk_cell BK122.out 1).trans rfl, (blk_cell BK122.out 2).trans rfl, (blk_cell BK122.out 3).trans rfl, (blk_cell BK122.out 4).trans rfl⟩ (fun hHeld => ?_)
     clear hK K
     refine norm_ (a' := ?_) ?_ ?_
     rotate_left
     ·
      show Act.put _ (some 15) _ = _
      simp only [Act.put, List.setIfInBounds_toArray, List.set_cons_zero, List.set_cons_succ, i64_w, i32_w]
      rfl
     refine oz 4 11 HT_.out (fun K hK => ?_)
     refine goes_ Tryd.func55 (by kernel_rfl) rfl #[.slice Ao24 l0.length co24, .int .u64 (IntKind.u64.wrap (a1_0))] (by rfl) rfl rfl lz ?_
     with_reducible refine (codec_putVarint.calls k (fun k_ => some k_ = (.slice Ao24 l0.length co24 : Value).ownBlock) (.slice Ao24 l0.length co24) l0 (IntKind.u64.wrap (a1_0)) t123 w0 _ ?side1 ?side2 A3.out).mono ?_
     (case side1 => exact hz1 HB.out GE122.out)
     (case side2 => exact Kd.R_tight rfl HO0.out)
     rintro e w28 ⟨v124, rfl, ho0, hb, hkp⟩
     refine ⟨_, rfl, ?_⟩
     replace BK122 := am (blk_kept (bz BK122.out) hkp (fun hs_ => (fun e_ => (Kd.R_ne HO0.out BK122.out (by decide)) e_) hs_))
     have HO125 := am (Kd.R_mono (ok' := fun k_ => (P0_ k_ ∨ w.heap.size ≤ k_) ∧ some k_ ≠ (v127 : Value).ownBlock) ho0 (fun k_ hk_ => ⟨Or.elim hk_ (fun hs_ => (HO0.out.1 k_ (hs_).symm).1) (fun hn_ => (.inr (Nat.le_trans (by first | exact HK.out.1 | exact (show Kept w _ (fun k_ => P0_ k_) from by repeat (first | (with_reducible first | exact HK.out | apply Kept.alloc | apply Kept.drewN | apply Kept.drew | refine Kept.setCell ?_ (.inr GW122.out) _) | exact HK.out)).1) hn_))), Or.elim hk_ (fun hs_ => fun e_ => (((HO128.out).1 k_ e_.symm).2) hs_) (fun hn_ => (Kd.fresh' (Kd.R_lt (rz HO128.out)) k_ hn_))⟩))
     replace HO128 := am (Kd.R_mono (ok' := fun k_ => (P0_ k_ ∨ w.heap.size ≤ k_) ∧ some k_ ≠ (v124 : Value).ownBlock) (Kd.R_keptB (HO128.out) hkp (fun k_ hk_ hs_ => (hk_.2) hs_)) (fun k_ hk_ => ⟨hk_.1.1.1, fun e_ => Or.elim (ho0.1 k_ e_.symm) (fun hs_ => hk_.2.1 hs_) (fun hn_ => Nat.not_le.2 hk_.2.2 hn_)⟩))
     replace HK := am (Kept.then_ (S := (fun k_ => P0_ k_)) (by repeat (first | (with_reducible first | exact HK.out | apply Kept.alloc | apply Kept.drewN | apply Kept.drew | refine Kept.setCell ?_ (.inr GW122.out) _) | exact HK.out)) hkp (fun k_ hs_ => (fun e_ => (HO0.out.1 k_ e_.symm).1) hs_))
     replace HB := am (hb)
     clear HO0
     (try clear hb)
     (try clear hkp)
     (try clear ho0)
     refine hK.out _ _ ⟨(blk_cell BK122.out 0).trans rfl, (blk_cell BK122.out 1).trans rfl, (blk_cell BK122.out 2).trans rfl, (blk_cell BK122.out 3).trans rfl, (blk_cell BK122.out 4).trans rfl⟩ (fun hHeld => ?_)
     clear hK K
     refine norm_ (a' := ?_) ?_ ?_
     rotate_left
     ·
      show Act.put _ (some 11) _ = _
      simp only [Act.put, List.setIfInBounds_toArray, List.set_cons_zero, List.set_cons_succ, i64_w, i32_w]
      rfl
     exact norm_ (by simp only [putAll, Act.put, List.setIfInBounds_toArray, List.set_cons_zero, List.set_cons_succ]) (hCont (v124, v127) _ ⟨hHeld, (rz HO125.out), (rz HO128.out), (bz BK122.out), (by repeat (first | (with_reducible first | exact HK.out | apply Kept.alloc | apply Kept.drewN | apply Kept.drew | refine Kept.setCell ?_ (.inr GW122.out) _) | exact HK.out)), (hz1 HB.out GE122.out)⟩)
   rintro ⟨v124, v127⟩ w29 ⟨hS_, h0_, h1_, h2_, h3_, h4_⟩
   have n0_ : Aside0 (Kd.R (Kd.int .u8) 5 w29 w0.heap.size (fun k_ => (P0_ k_ ∨ w.heap.size ≤ k_) ∧ some k_ ≠ (v127 : Value).ownBlock) v124 t123) := ⟨h0_⟩
   have n1_ : Aside0 (Kd.R (Kd.int .u8) 5 w29 w0.heap.size (fun k_ => (P0_ k_ ∨ w.heap.size ≤ k_) ∧ some k_ ≠ (v124 : Value).ownBlock) v127 y126) := ⟨h1_⟩
   have n2_ : Aside0 (w29.heap[gb122]? = some (.cells #[.int .i64 a1_0, .int .i64 a1_1, .int .i64 a1_2, .string a1_3, .slice A1_4 l1_4.length c1_4] 43 (0, 0))) := ⟨h2_⟩
   have n3_ : Aside0 (Kept w w29 (fun k_ => P0_ k_)) := ⟨h3_⟩
   have n4_ : Aside0 (Below w0.heap.size w0 w29) := ⟨h4_⟩
   clear HO0
   clear BK122
   clear HK
   clear HB
   clear h0_ h1_ h2_ h3_ h4_
   have HO125 := n0_
   have HO128 := n1_
   have BK122 := n2_
   have HK := n3_
   have HB := n4_
   clear n0_ n1_ n2_ n3_ n4_
   have hHeld : w29.cell? ⟨gb122, 0, none⟩ = some (.int .i64 a1_0) ∧ w29.cell? ⟨gb122, 1, none⟩ = some (.int .i64 a1_1) ∧ w29.cell? ⟨gb122, 2, none⟩ = some (.int .i64 a1_2) ∧ w29.cell? ⟨gb122, 3, none⟩ = some (.string a1_3) ∧ w29.cell? ⟨gb122, 4, none⟩ = some (.slice A1_4 l1_4.length c1_4) := hS_
   obtain ⟨Ao31, co31, eo31⟩ := Kd.R_slice HO128.out
   (first | subst eo31 | (injection eo31 with f1_ f2_ f3_; have f4_ := f1_.symm; have f5_ := f3_.symm; clear f1_ f2_ f3_; subst f4_; subst f5_))
   refine norm_ (a' := ?_) ?_ ?_
   rotate_left
   ·
    simp only [putAll, Act.put, List.setIfInBounds_toArray, List.set_cons_zero, List.set_cons_succ]
    rfl
   refine oz 9 16 HT_.out (fun K hK => ?_)
   refine Kd.R_append_rows_step (Kd.int .u8) (w0 := w0) w0.heap.size (by rfl) (.tmp 11) (.tmp 15) 24 5 (.int .u8 0) 1 rfl Tryd.underlying24 info5 rfl (by decide) (by omega) v124 t123 y126 _ _ _ (fun k_ => (P0_ k_ ∨ w.heap.size ≤ k_) ∧ some k_ ≠ (.slice Ao31 y126.length co31 : Value).ownBlock) (fun _ => False) rfl rfl ?aO ?aR (fun _ _ h => h) (fun _ h => h.elim) ?aF ?aB ?aS ?aL ?_
   (case aR => exact cz (Kd.R_reads' HO128.out).2.2)
   (case aB => exact (hz1 HB.out GE122.out))
   (case aF => exact (fun k_ hk => ⟨(.inr (Nat.le_trans (by first | exact HK.out.1 | exact (show Kept w _ (fun k_ => P0_ k_) from by repeat (first | (with_reducible first | exact HK.out | apply Kept.alloc | apply Kept.drewN | apply Kept.drew | refine Kept.setCell ?_ (.inr GW122.out) _) | exact HK.out)).1) hk)), Kd.fresh' (Kd.R_lt (rz HO128.out)) k_ hk⟩))
   (case aO => exact (rz HO125.out))
   (case aS => exact (below_size (hz1 HB.out GE122.out)))
   (case aL => have := LMc4.out; omega)
   intro v130 w30 ho hb hg hat
   rw [← Ny129.out] at ho
   replace BK122 := am (blk_grown (bz BK122.out) hg (Kd.R_ne HO125.out BK122.out (by decide)))
   replace HO128 := am (Kd.R_after (ok := (fun k_ => (P0_ k_ ∨ w.heap.size ≤ k_))) (rz HO128.out) hg hat)
   replace HB := am (hb)
   replace HK := am (Kept.of_grown (S := (fun k_ => P0_ k_)) hg (by repeat (first | (with_reducible first | exact HK.out | apply Kept.alloc | apply Kept.drewN | apply Kept.drew | refine Kept.setCell ?_ (.inr GW122.out) _) | exact HK.out)) (fun k_ e_ => (HO125.out.1 k_ e_).1))
   have HO131 := am (ho)
   clear HO125
   clear ho hb hg hat
   refine hK.out _ _ ⟨(blk_cell BK122.out 0).trans rfl, (blk_cell BK122.out 1).trans rfl, (blk_cell BK122.out 2).trans rfl, (blk_cell BK122.out 3).trans rfl, (blk_cell BK122.out 4).trans rfl⟩ (fun hHeld => ?_)
   clear hK K
   refine norm_ (a' := ?_) ?_ ?_
   rotate_left
   ·
    show Act.put _ (some 16) _ = _
    simp only [Act.put, List.setIfInBounds_toArray, List.set_cons_zero, List.set_cons_succ, i64_w, i32_w]
    rfl
   refine pz 10 0 HT_.out ?_
   refine done_ (done_of HT_.out (by kernel_rfl)) ?_
   have hcz32_0 : w30.cell? ⟨gb122, 0, none⟩ = some (.int .i64 a1_0) := (blk_cell BK122.out 0).trans rfl
   have hcz32_1 : w30.cell? ⟨gb122, 1, none⟩ = some (.int .i64 a1_1) := (blk_cell BK122.out 1).trans rfl
   have hcz32_2 : w30.cell? ⟨gb122, 2, none⟩ = some (.int .i64 a1_2) := (blk_cell BK122.out 2).trans rfl
   have hcz32_3 : w30.cell? ⟨gb122, 3, none⟩ = some (.string a1_3) := (blk_cell BK122.out 3).trans rfl
   have hcz32_4 : w30.cell? ⟨gb122, 4, none⟩ = some (.slice A1_4 l1_4.length c1_4) := (blk_cell BK122.out 4).trans rfl
   have hfz32_0 := blk_frozen BK122.out 0
   have hfz32_1 := blk_frozen BK122.out 1
   have hfz32_2 := blk_frozen BK122.out 2
   have hfz32_3 := blk_frozen BK122.out 3
   have hfz32_4 := blk_frozen BK122.out 4
   try go_wp2
   replace HO128 := am (Kd.R_drew HO128.out)
   replace HO131 := am (Kd.R_drew HO131.out)
   replace BK122 := am (blk_drew BK122.out)
   replace HK := am (Kept.drew HK.out)
   replace HB := am (below_drew1 HB.out)
   obtain ⟨Ao34, co34, eo34⟩ := Kd.R_slice HO131.out
   (first | subst eo34 | (injection eo34 with f1_ f2_ f3_; have f4_ := f1_.symm; have f5_ := f3_.symm; clear f1_ f2_ f3_; subst f4_; subst f5_))
   refine start_ (n := 10) (S := fun w' => w'.cell? ⟨gb122, 0, none⟩ = some (.int .i64 a1_0) ∧ w'.cell? ⟨gb122, 1, none⟩ = some (.int .i64 a1_1) ∧ w'.cell? ⟨gb122, 2, none⟩ = some (.int .i64 a1_2) ∧ w'.cell? ⟨gb122, 3, none⟩ = some (.string a1_3) ∧ w'.cell? ⟨gb122, 4, none⟩ = some (.slice A1_4 l1_4.length c1_4)) (ds := []) #[false, false, false, false, false, false, false, false, false, false] (by kernel_rfl) rfl rfl ⟨(blk_cell BK122.out 0).trans rfl, (blk_cell BK122.out 1).trans rfl, (blk_cell BK122.out 2).trans rfl, (blk_cell BK122.out 3).trans rfl, (blk_cell BK122.out 4).trans rfl⟩ (fun hHeld => ?_); refine with_tabW codec_put.tab6 codec_put.bits6 (fun HT_ HW_ => ?_)
   generalize w30.drew = w33 at HO128 HO131 BK122 HK HB hHeld ⊢
   refine pz 0 28 HT_.out ?_
   refine pz 1 29 HT_.out ?_
   refine pz 6 34 HT_.out ?_
   refine take_ (i := 2) (N := some 30) (v := ?_) (a' := ?_) #[true, true, true, false, false, false, true, false, false, false] rfl rfl (take_ofW HT_.out HW_.out (by kernel_rfl)) (fun _ _ _ h => h) (Or.inl ⟨by rfl, ?_⟩) hHeld ?_ ?_
   rotate_left
   ·
    rintro w' ⟨s0, s1, s2, s3, s4⟩
    go_simp
    with_reducible rfl
   rotate_left
   ·
    simp only [Act.put, List.setIfInBounds_toArray, List.set_cons_zero, List.set_cons_succ, i64_w, i32_w]
    rfl
   refine pz 3 31 HT_.out ?_
   refine pz 4 32 HT_.out ?_
   refine take_ (i := 7) (N := some 35) (v := ?_) (a' := ?_) #[true, true, true, true, true, false, true, true, false, false] rfl rfl (take_ofW HT_.out HW_.out (by kernel_rfl)) (fun _ _ _ h => h) (Or.inl ⟨by rfl, ?_⟩) hHeld ?_ ?_
   rotate_left
   ·
    rintro w' ⟨s0, s1, s2, s3, s4⟩
    go_simp
    with_reducible rfl
   rotate_left
   ·
    simp only [Act.put, List.setIfInBounds_toArray, List.set_cons_zero, List.set_cons_succ, i64_w, i32_w]
    rfl
   refine oz 5 33 HT_.out (fun K hK => ?_)
   refine goes_ Tryd.func55 (by kernel_rfl) rfl #[.slice Ao34 y129.length co34, .int .u64 (IntKind.u64.wrap ((a1_3.size : Int)))] (by rfl) rfl rfl lz ?_
   with_reducible refine (codec_putVarint.calls k (fun k_ => some k_ = (.slice Ao34 y129.length co34 : Value).ownBlock) (.slice Ao34 y129.length co34) y129 (IntKind.u64.wrap ((a1_3.size : Int))) t136 w0 _ ?side1 ?side2 A21.out).mono ?_
   (case side1 => exact hz1 HB.out GE122.out)
   (case side2 => exact Kd.R_tight rfl HO131.out)
   rintro e w35 ⟨v137, rfl, ho0, hb, hkp⟩
   refine ⟨_, rfl, ?_⟩
   replace BK122 := am (blk_kept (bz BK122.out) hkp (fun hs_ => (fun e_ => (Kd.R_ne HO131.out BK122.out (by decide)) e_) hs_))
   have HO138 := am (Kd.R_mono (ok' := fun k_ => (P0_ k_ ∨ w.heap.size ≤ k_) ∧ some k_ ≠ (.slice Ao31 y126.length co31 : Value).ownBlock) ho0 (fun k_ hk_ => ⟨Or.elim hk_ (fun hs_ => (HO131.out.1 k_ (hs_).symm).1) (fun hn_ => (.inr (Nat.le_trans (by first | exact HK.out.1 | exact (show Kept w _ (fun k_ => P0_ k_) from by repeat (first | (with_reducible first | exact HK.out | apply Kept.alloc | apply Kept.drewN | apply Kept.drew | refine Kept.setCell ?_ (.inr GW122.out) _) | exact HK.out)).1) hn_))), Or.elim hk_ (fun hs_ => fun e_ => (((HO128.out).1 k_ e_.symm).2) hs_) (fun hn_ => (Kd.fresh' (Kd.R_lt (rz HO128.out)) k_ hn_))⟩))
   replace HO128 := am (Kd.R_mono (ok' := fun k_ => (P0_ k_ ∨ w.heap.size ≤ k_) ∧ some k_ ≠ (v137 : Value).ownBlock) (Kd.R_keptB (HO128.out) hkp (fun k_ hk_ hs_ => (hk_.2) hs_)) (fun k_ hk_ => ⟨hk_.1.1, fun e_ => Or.elim (ho0.1 k_ e_.symm) (fun hs_ => hk_.2.1 hs_) (fun hn_ => Nat.not_le.2 hk_.2.2 hn_)⟩))
   replace HK := am (Kept.then_ (S := (fun k_ => P0_ k_)) (by repeat (first | (with_reducible first | exact HK.out | apply Kept.alloc | apply Kept.drewN | apply Kept.drew | refine Kept.setCell ?_ (.inr GW122.out) _) | exact HK.out)) hkp (fun k_ hs_ => (fun e_ => (HO131.out.1 k_ e_.symm).1) hs_))
   replace HB := am (hb)
   clear HO131
   (try clear hb)
   (try clear hkp)
   (try clear ho0)
   refine hK.out _ _ ⟨(blk_cell BK122.out 0).trans rfl, (blk_cell BK122.out 1).trans rfl, (blk_cell BK122.out 2).trans rfl, (blk_cell BK122.out 3).trans rfl, (blk_cell BK122.out 4).trans rfl⟩ (fun hHeld => ?_)
   clear hK K
   refine norm_ (a' := ?_) ?_ ?_
   rotate_left
   ·
    show Act.put _ (some 33) _ = _
    simp only [Act.put, List.setIfInBounds_toArray, List.set_cons_zero, List.set_cons_succ, i64_w, i32_w]
    rfl
   refine oz 8 36 HT_.out (fun K hK => ?_)
   refine appstr_step (w0 := w0) w0.heap.size (by rfl) (.tmp 33) _ 24 9 5 rfl Tryd.underlying24 Tryd.underlying9 info5 v137 t136 a1_3 (fun k_ => (P0_ k_ ∨ w.heap.size ≤ k_) ∧ some k_ ≠ (.slice Ao31 y126.length co31 : Value).ownBlock) rfl rfl ?aF ?aO ?aB ?aS ?aL ?_
   (case aB => exact (hz1 HB.out GE122.out))
   (case aF => exact (fun k_ hk => ⟨(.inr (Nat.le_trans (by first | exact HK.out.1 | exact (show Kept w _ (fun k_ => P0_ k_) from by repeat (first | (with_reducible first | exact HK.out | apply Kept.alloc | apply Kept.drewN | apply Kept.drew | refine Kept.setCell ?_ (.inr GW122.out) _) | exact HK.out)).1) hk)), Kd.fresh' (Kd.R_lt (rz HO128.out)) k_ hk⟩))
   (case aO => exact (rz HO138.out))
   (case aS => exact (below_size (hz1 HB.out GE122.out)))
   (case aL => have := LMc22.out; omega)
   intro v140 w36 ho hb hg hat
   rw [← Ny139.out] at ho
   replace BK122 := am (blk_grown (bz BK122.out) hg (Kd.R_ne HO138.out BK122.out (by decide)))
   replace HO128 := am (Kd.R_after (ok := (fun k_ => (P0_ k_ ∨ w.heap.size ≤ k_))) (rz HO128.out) hg hat)
   replace HB := am (hb)
   replace HK := am (Kept.of_grown (S := (fun k_ => P0_ k_)) hg (by repeat (first | (with_reducible first | exact HK.out | apply Kept.alloc | apply Kept.drewN | apply Kept.drew | refine Kept.setCell ?_ (.inr GW122.out) _) | exact HK.out)) (fun k_ e_ => (HO138.out.1 k_ e_).1))
   have HO141 := am (ho)
   clear HO138
   clear ho hb hg hat
   refine hK.out _ _ ⟨(blk_cell BK122.out 0).trans rfl, (blk_cell BK122.out 1).trans rfl, (blk_cell BK122.out 2).trans rfl, (blk_cell BK122.out 3).trans rfl, (blk_cell BK122.out 4).trans rfl⟩ (fun hHeld => ?_)
   clear hK K
   refine norm_ (a' := ?_) ?_ ?_
   rotate_left
   ·
    show Act.put _ (some 36) _ = _
    simp only [Act.put, List.setIfInBounds_toArray, List.set_cons_zero, List.set_cons_succ, i64_w, i32_w]
    rfl
   refine pz 9 4 HT_.out ?_
   refine done_ (done_of HT_.out (by kernel_rfl)) ?_
   try go_wp2
   go_ret
   exact ⟨_, ew, by (with_reducible repeat (first | apply Kd.R_alloc | apply Kd.R_drewN | apply Kd.R_drew)); exact Kd.R_mono HO141.out (fun _ hk => hk.1), hz1 HB.out GE122.out, by repeat (first | (with_reducible first | exact HK.out | apply Kept.alloc | apply Kept.drewN | apply Kept.drew | refine Kept.setCell ?_ (.inr GW122.out) _) | exact HK.out)⟩
  ·
   rw [if_neg c20] at H
   have c20b0 : (a1_1 == 2) = false := beq_eq_false_iff_ne.mpr c20
   have c20b1 : (a1_1 != 2) = true := bne_iff_ne.mpr c20
   replace H := Option.bind_eq_some_iff.mp H
   obtain ⟨t142, A370, H⟩ := H
   try dsimp only at H
   have A37 := am A370
   clear A370
   have H' := am H
   clear H
   go_enter Tryd.func43, Tryd.ntmps43
   try go_wp2_with (first | ((with_reducible refine gate_dst (N := 3) rfl ?_); refine box_event rfl (N := 3) rfl (cs := #[.int .i64 a1_0, .int .i64 a1_1, .int .i64 a1_2, .string a1_3, .slice A1_4 l1_4.length c1_4]) (t := 43) gz ?_; intro gb122 hg w38 hbox hb; replace HO0 := am (Kd.R_below (rz HO0.out) hb); have BK122 := am (hbox); have GW122 := am ((by rw [hg]; exact (by first | exact HK.out.1 | exact (show Kept w _ (fun k_ => P0_ k_) from by repeat (first | (with_reducible first | exact HK.out | apply Kept.alloc | apply Kept.drewN | apply Kept.drew) | exact HK.out)).1) : w.heap.size ≤ gb122)); replace HK := am (Kept.below (S := (fun k_ => P0_ k_)) (by repeat (first | (with_reducible first | exact HK.out | apply Kept.alloc | apply Kept.drewN | apply Kept.drew) | exact HK.out)) hb); have GE122 := am ((bs hg (hz HB.out) : w0.heap.size ≤ gb122)); replace HB := am (below_step (hz HB.out) hb); clear hb hbox hg; obtain ⟨Ao39, co39, eo39⟩ := Kd.R_slice HO0.out; subst eo39))
   replace HO0 := am (Kd.R_drew HO0.out)
   replace BK122 := am (blk_drew BK122.out)
   replace HK := am (Kept.drew HK.out)
   replace HB := am (below_drew1 HB.out)
   refine start_ (n := 11) (S := fun w' => w'.cell? ⟨gb122, 0, none⟩ = some (.int .i64 a1_0) ∧ w'.cell? ⟨gb122, 1, none⟩ = some (.int .i64 a1_1) ∧ w'.cell? ⟨gb122, 2, none⟩ = some (.int .i64 a1_2) ∧ w'.cell? ⟨gb122, 3, none⟩ = some (.string a1_3) ∧ w'.cell? ⟨gb122, 4, none⟩ = some (.slice A1_4 l1_4.length c1_4)) (ds := []) #[false, false, false, false, false, false, false, false, false, false, false] (by kernel_rfl) rfl rfl ⟨(blk_cell BK122.out 0).trans rfl, (blk_cell BK122.out 1).trans rfl, (blk_cell BK122.out 2).trans rfl, (blk_cell BK122.out 3).trans rfl, (blk_cell BK122.out 4).trans rfl⟩ (fun hHeld => ?_); refine with_tabW codec_put.tab1 codec_put.bits1 (fun HT_ HW_ => ?_)
   generalize w38.drew = w40 at HO0 BK122 HK HB hHeld ⊢
   refine pz 0 7 HT_.out ?_
   refine pz 1 8 HT_.out ?_
   refine pz 5 12 HT_.out ?_
   refine take_ (i := 2) (N := some 9) (v := ?_) (a' := ?_) #[true, true, true, false, false, true, false, false, false, false, false] rfl rfl (take_ofW HT_.out HW_.out (by kernel_rfl)) (fun _ _ _ h => h) (Or.inl ⟨by rfl, ?_⟩) hHeld ?_ ?_
   rotate_left
   ·
    rintro w' ⟨s0, s1, s2, s3, s4⟩
    go_simp
    with_reducible rfl
   rotate_left
   ·
    simp only [Act.put, List.setIfInBounds_toArray, List.set_cons_zero, List.set_cons_succ, i64_w, i32_w]
    rfl
   refine pz 3 10 HT_.out ?_
   refine take_ (i := 6) (N := some 13) (v := ?_) (a' := ?_) #[true, true, true, true, false, true, true, false, false, false, false] rfl rfl (take_ofW HT_.out HW_.out (by kernel_rfl)) (fun _ _ _ h => h) (Or.inl ⟨by rfl, ?_⟩) hHeld ?_ ?_
   rotate_left
   ·
    rintro w' ⟨s0, s1, s2, s3, s4⟩
    go_simp
    with_reducible rfl
   rotate_left
   ·
    simp only [Act.put, List.setIfInBounds_toArray, List.set_cons_zero, List.set_cons_succ, i64_w, i32_w]
    rfl
   refine pz 7 14 HT_.out ?_
   refine join_ (σ := Value × Value) 2 #[true, true, true, true, true, true, true, true, true, false, false] (fun s_ => [(11, s_.1), (15, s_.2)]) (fun s_ w' => (w'.cell? ⟨gb122, 0, none⟩ = some (.int .i64 a1_0) ∧ w'.cell? ⟨gb122, 1, none⟩ = some (.int .i64 a1_1) ∧ w'.cell? ⟨gb122, 2, none⟩ = some (.int .i64 a1_2) ∧ w'.cell? ⟨gb122, 3, none⟩ = some (.string a1_3) ∧ w'.cell? ⟨gb122, 4, none⟩ = some (.slice A1_4 l1_4.length c1_4)) ∧ (Kd.R (Kd.int .u8) 5 w' w0.heap.size (fun k_ => (P0_ k_ ∨ w.heap.size ≤ k_) ∧ some k_ ≠ (s_.2 : Value).ownBlock) s_.1 t123) ∧ (Kd.R (Kd.int .u8) 5 w' w0.heap.size (fun k_ => (P0_ k_ ∨ w.heap.size ≤ k_) ∧ some k_ ≠ (s_.1 : Value).ownBlock) s_.2 y126) ∧ (w'.heap[gb122]? = some (.cells #[.int .i64 a1_0, .int .i64 a1_1, .int .i64 a1_2, .string a1_3, .slice A1_4 l1_4.length c1_4] 43 (0, 0))) ∧ (Kept w w' (fun k_ => P0_ k_)) ∧ (Below w0.heap.size w0 w')) ?_ ?_
   rotate_left
   ·
    intro hCont
    refine two_ (i := 4) (j := 8) (Ni := some 11) (Nj := some 15) #[true, true, true, true, true, true, true, true, false, false, false] #[true, true, true, true, false, true, true, true, true, false, false] rfl rfl rfl rfl (two_of HT_.out (by kernel_rfl)) (by decide) (by decide) (fun K hK => ?_) (fun K hK => ?_)
    ·
     skip
     refine goes_ Tryd.func55 (by kernel_rfl) rfl #[.slice Ao39 l0.length co39, .int .u64 (IntKind.u64.wrap (a1_0))] (by rfl) rfl rfl lz ?_
     with_reducible refine (codec_putVarint.calls k (fun k_ => some k_ = (.slice Ao39 l0.length co39 : Value).ownBlock) (.slice Ao39 l0.length co39) l0 (IntKind.u64.wrap (a1_0)) t123 w0 _ ?side1 ?side2 A3.out).mono ?_
     (case side1 => exact hz1 HB.out GE122.out)
     (case side2 => exact Kd.R_tight rfl HO0.out)
     rintro e w41 ⟨v124, rfl, ho0, hb, hkp⟩
     refine ⟨_, rfl, ?_⟩
     replace BK122 := am (blk_kept (bz BK122.out) hkp (fun hs_ => (fun e_ => (Kd.R_ne HO0.out BK122.out (by decide)) e_) hs_))
     have HO125 := am (Kd.R_mono (ok' := fun k_ => (P0_ k_ ∨ w.heap.size ≤ k_)) ho0 (fun k_ hk_ => Or.elim hk_ (fun hs_ => (HO0.out.1 k_ (hs_).symm)) (fun hn_ => (.inr (Nat.le_trans (by first | exact HK.out.1 | exact (show Kept w _ (fun k_ => P0_ k_) from by repeat (first | (with_reducible first | exact HK.out | apply Kept.alloc | apply Kept.drewN | apply Kept.drew | refine Kept.setCell ?_ (.inr GW122.out) _) | exact HK.out)).1) hn_)))))
     replace HK := am (Kept.then_ (S := (fun k_ => P0_ k_)) (by repeat (first | (with_reducible first | exact HK.out | apply Kept.alloc | apply Kept.drewN | apply Kept.drew | refine Kept.setCell ?_ (.inr GW122.out) _) | exact HK.out)) hkp (fun k_ hs_ => (fun e_ => (HO0.out.1 k_ e_.symm)) hs_))
     replace HB := am (hb)
     clear HO0
     (try clear hb)
     (try clear hkp)
     (try clear ho0)
     refine hK.out _ _ ⟨(blk_cell BK122.out 0).trans rfl, (blk_cell BK122.out 1).trans rfl, (blk_cell BK122.out 2).trans rfl, (blk_cell BK122.out 3).trans rfl, (blk_cell BK122.out 4).trans rfl⟩ (fun hHeld => ?_)
     clear hK K
     refine norm_ (a' := ?_) ?_ ?_
     rotate_left
     ·
      show Act.put _ (some 11) _ = _
      simp only [Act.put, List.setIfInBounds_toArray, List.set_cons_zero, List.set_cons_succ, i64_w, i32_w]
      rfl
     refine oz 8 15 HT_.out (fun K hK => ?_)
     refine Kd.R_lit_step (Kd.int .u8) _ 5 ?hg (N := 15) ?hd (xs := ([(a1_1) % 256] : List Int)) (inner := [.int .u8 ((a1_1) % 256)]) (ok := fun _ => True) (okp := fun _ => True) ?hr ?hp (fun _ hk => hk) trivial (Below.refl _ _) (Nat.le_refl _) (by simp) ?_; (case hd => rfl); (case hg => rfl); (case hr => exact gz); (case hp => exact (Reps.one (show Kd.M (Kd.int .u8) _ _ _ ((a1_1) % 256) [.int .u8 ((a1_1) % 256)] from rfl) (Reps.none _ _)))
     intro v127 w42 ho43 hb hg_ hnew_
     clear hg_ hnew_
     (first | rw [← Ny126.out] at ho43 | (simp only [Int.reduceToNat] at ho43; rw [← Ny126.out] at ho43))
     have HO128 := am (Kd.R_lower (Kd.R_new' (Kd.R_newM (M := fun k_ => (P0_ k_ ∨ w.heap.size ≤ k_)) ho43 (by first | exact HK.out.1 | exact (show Kept w _ (fun k_ => P0_ k_) from by repeat (first | (with_reducible first | exact HK.out | apply Kept.alloc | apply Kept.drewN | apply Kept.drew | refine Kept.setCell ?_ (.inr GW122.out) _) | exact HK.out)).1) (fun k_ h_ => .inr h_)) (Kd.R_lt (rz HO125.out))) (below_size (hz1 HB.out GE122.out)))
     replace HO125 := am (Kd.R_elder' (rz HO125.out) (Kd.R_base ho43) hb)
     replace BK122 := am (blk_below (bz BK122.out) hb)
     replace HK := am (Kept.below (S := (fun k_ => P0_ k_)) (by repeat (first | (with_reducible first | exact HK.out | apply Kept.alloc | apply Kept.drewN | apply Kept.drew | refine Kept.setCell ?_ (.inr GW122.out) _) | exact HK.out)) hb)
     replace HB := am (below_step (hz1 HB.out GE122.out) hb)
     clear hb ho43
     refine hK.out _ _ ⟨(blk_cell BK122.out 0).trans rfl, (blk_cell BK122.out 1).trans rfl, (blk_cell BK122.out 2).trans rfl, (blk_cell BK122.out 3).trans rfl, (blk_cell BK122.out 4).trans rfl⟩ (fun hHeld => ?_)
     clear hK K
     refine norm_ (a' := ?_) ?_ ?_
     rotate_left
     ·
      show Act.put _ (some 15) _ = _
      simp only [Act.put, List.setIfInBounds_toArray, List.set_cons_zero, List.set_cons_succ, i64_w, i32_w]
      rfl
     exact norm_ (by simp only [putAll, Act.put, List.setIfInBounds_toArray, List.set_cons_zero, List.set_cons_succ]) (hCont (v124, v127) _ ⟨hHeld, (rz HO125.out), (rz (Kd.R_mono HO128.out (fun _ hk => ⟨hk.1.1, hk.2⟩))), (bz BK122.out), (by repeat (first | (with_reducible first | exact HK.out | apply Kept.alloc | apply Kept.drewN | apply Kept.drew | refine Kept.setCell ?_ (.inr GW122.out) _) | exact HK.out)), (hz1 HB.out GE122.out)⟩)
    ·
     skip
     refine Kd.R_lit_step (Kd.int .u8) _ 5 ?hg (N := 15) ?hd (xs := ([(a1_1) % 256] : List Int)) (inner := [.int .u8 ((a1_1) % 256)]) (ok := fun _ => True) (okp := fun _ => True) ?hr ?hp (fun _ hk => hk) trivial (Below.refl _ _) (Nat.le_refl _) (by simp) ?_; (case hd => rfl); (case hg => rfl); (case hr => exact gz); (case hp => exact (Reps.one (show Kd.M (Kd.int .u8) _ _ _ ((a1_1) % 256) [.int .u8 ((a1_1) % 256)] from rfl) (Reps.none _ _)))
     intro v127 w41 ho42 hb hg_ hnew_
     clear hg_ hnew_
     (first | rw [← Ny126.out] at ho42 | (simp only [Int.reduceToNat] at ho42; rw [← Ny126.out] at ho42))
     have HO128 := am (Kd.R_lower (Kd.R_new' (Kd.R_newM (M := fun k_ => (P0_ k_ ∨ w.heap.size ≤ k_)) ho42 (by first | exact HK.out.1 | exact (show Kept w _ (fun k_ => P0_ k_) from by repeat (first | (with_reducible first | exact HK.out | apply Kept.alloc | apply Kept.drewN | apply Kept.drew | refine Kept.setCell ?_ (.inr GW122.out) _) | exact HK.out)).1) (fun k_ h_ => .inr h_)) (Kd.R_lt (rz HO0.out))) (below_size (hz1 HB.out GE122.out)))
     replace HO0 := am (Kd.R_elder' (rz HO0.out) (Kd.R_base ho42) hb)
     replace BK122 := am (blk_below (bz BK122.out) hb)
     replace HK := am (Kept.below (S := (fun k_ => P0_ k_)) (by repeat (first | (with_reducible first | exact HK.out | apply Kept.alloc | apply Kept.drewN | apply Kept.drew | refine Kept.setCell ?_ (.inr GW122.out) _) | exact HK.out)) hb)
     replace HB := am (below_step (hz1 HB.out GE122.out) hb)
     clear hb ho42
     refine hK.out _ _ ⟨(blk_cell BK122.out 0).trans rfl, (blk_cell BK122.out 1).trans rfl, (blk_cell BK122.out 2).trans rfl, (blk_cell BK122.out 3).trans rfl, (blk_cell BK122.out 4).trans rfl⟩ (fun hHeld => ?_)
     clear hK K
     refine norm_ (a' := ?_) ?_ ?_
     rotate_left
     ·
      show Act.put _ (some 15) _ = _
      simp only [Act.put, List.setIfInBounds_toArray, List.set_cons_zero, List.set_cons_succ, i64_w, i32_w]
      rfl
     refine oz 4 11 HT_.out (fun K hK => ?_)
     refine goes_ Tryd.func55 (by kernel_rfl) rfl #[.slice Ao39 l0.length co39, .int .u64 (IntKind.u64.wrap (a1_0))] (by rfl) rfl rfl lz ?_
     with_reducible refine (codec_putVarint.calls k (fun k_ => some k_ = (.slice Ao39 l0.length co39 : Value).ownBlock) (.slice Ao39 l0.length co39) l0 (IntKind.u64.wrap (a1_0)) t123 w0 _ ?side1 ?side2 A3.out).mono ?_
     (case side1 => exact hz1 HB.out GE122.out)
     (case side2 => exact Kd.R_tight rfl HO0.out)
     rintro e w43 ⟨v124, rfl, ho0, hb, hkp⟩
     refine ⟨_, rfl, ?_⟩
     replace BK122 := am (blk_kept (bz BK122.out) hkp (fun hs_ => (fun e_ => (Kd.R_ne HO0.out BK122.out (by decide)) e_) hs_))
     have HO125 := am (Kd.R_mono (ok' := fun k_ => (P0_ k_ ∨ w.heap.size ≤ k_) ∧ some k_ ≠ (v127 : Value).ownBlock) ho0 (fun k_ hk_ => ⟨Or.elim hk_ (fun hs_ => (HO0.out.1 k_ (hs_).symm).1) (fun hn_ => (.inr (Nat.le_trans (by first | exact HK.out.1 | exact (show Kept w _ (fun k_ => P0_ k_) from by repeat (first | (with_reducible first | exact HK.out | apply Kept.alloc | apply Kept.drewN | apply Kept.drew | refine Kept.setCell ?_ (.inr GW122.out) _) | exact HK.out)).1) hn_))), Or.elim hk_ (fun hs_ => fun e_ => (((HO128.out).1 k_ e_.symm).2) hs_) (fun hn_ => (Kd.fresh' (Kd.R_lt (rz HO128.out)) k_ hn_))⟩))
     replace HO128 := am (Kd.R_mono (ok' := fun k_ => (P0_ k_ ∨ w.heap.size ≤ k_) ∧ some k_ ≠ (v124 : Value).ownBlock) (Kd.R_keptB (HO128.out) hkp (fun k_ hk_ hs_ => (hk_.2) hs_)) (fun k_ hk_ => ⟨hk_.1.1.1, fun e_ => Or.elim (ho0.1 k_ e_.symm) (fun hs_ => hk_.2.1 hs_) (fun hn_ => Nat.not_le.2 hk_.2.2 hn_)⟩))
     replace HK := am (Kept.then_ (S := (fun k_ => P0_ k_)) (by repeat (first | (with_reducible first | exact HK.out | apply Kept.alloc | apply Kept.drewN | apply Kept.drew | refine Kept.setCell ?_ (.inr GW122.out) _) | exact HK.out)) hkp (fun k_ hs_ => (fun e_ => (HO0.out.1 k_ e_.symm).1) hs_))
     replace HB := am (hb)
     clear HO0
     (try clear hb)
     (try clear hkp)
     (try clear ho0)
     refine hK.out _ _ ⟨(blk_cell BK122.out 0).trans rfl, (blk_cell BK122.out 1).trans rfl, (blk_cell BK122.out 2).trans rfl, (blk_cell BK122.out 3).trans rfl, (blk_cell BK122.out 4).trans rfl⟩ (fun hHeld => ?_)
     clear hK K
     refine norm_ (a' := ?_) ?_ ?_
     rotate_left
     ·
      show Act.put _ (some 11) _ = _
      simp only [Act.put, List.setIfInBounds_toArray, List.set_cons_zero, List.set_cons_succ, i64_w, i32_w]
      rfl
     exact norm_ (by simp only [putAll, Act.put, List.setIfInBounds_toArray, List.set_cons_zero, List.set_cons_succ]) (hCont (v124, v127) _ ⟨hHeld, (rz HO125.out), (rz HO128.out), (bz BK122.out), (by repeat (first | (with_reducible first | exact HK.out | apply Kept.alloc | apply Kept.drewN | apply Kept.drew | refine Kept.setCell ?_ (.inr GW122.out) _) | exact HK.out)), (hz1 HB.out GE122.out)⟩)
   rintro ⟨v124, v127⟩ w44 ⟨hS_, h0_, h1_, h2_, h3_, h4_⟩
   have n0_ : Aside0 (Kd.R (Kd.int .u8) 5 w44 w0.heap.size (fun k_ => (P0_ k_ ∨ w.heap.size ≤ k_) ∧ some k_ ≠ (v127 : Value).ownBlock) v124 t123) := ⟨h0_⟩
   have n1_ : Aside0 (Kd.R (Kd.int .u8) 5 w44 w0.heap.size (fun k_ => (P0_ k_ ∨ w.heap.size ≤ k_) ∧ some k_ ≠ (v124 : Value).ownBlock) v127 y126) := ⟨h1_⟩
   have n2_ : Aside0 (w44.heap[gb122]? = some (.cells #[.int .i64 a1_0, .int .i64 a1_1, .int .i64 a1_2, .string a1_3, .slice A1_4 l1_4.length c1_4] 43 (0, 0))) := ⟨h2_⟩
   have n3_ : Aside0 (Kept w w44 (fun k_ => P0_ k_)) := ⟨h3_⟩
   have n4_ : Aside0 (Below w0.heap.size w0 w44) := ⟨h4_⟩
   clear HO0
   clear BK122
   clear HK
   clear HB
   clear h0_ h1_ h2_ h3_ h4_
   have HO125 := n0_
   have HO128 := n1_
   have BK122 := n2_
   have HK := n3_
   have HB := n4_
   clear n0_ n1_ n2_ n3_ n4_
   have hHeld : w44.cell? ⟨gb122, 0, none⟩ = some (.int .i64 a1_0) ∧ w44.cell? ⟨gb122, 1, none⟩ = some (.int .i64 a1_1) ∧ w44.cell? ⟨gb122, 2, none⟩ = some (.int .i64 a1_2) ∧ w44.cell? ⟨gb122, 3, none⟩ = some (.string a1_3) ∧ w44.cell? ⟨gb122, 4, none⟩ = some (.slice A1_4 l1_4.length c1_4) := hS_
   obtain ⟨Ao46, co46, eo46⟩ := Kd.R_slice HO128.out
   (first | subst eo46 | (injection eo46 with f1_ f2_ f3_; have f4_ := f1_.symm; have f5_ := f3_.symm; clear f1_ f2_ f3_; subst f4_; subst f5_))
   refine norm_ (a' := ?_) ?_ ?_
   rotate_left
   ·
    simp only [putAll, Act.put, List.setIfInBounds_toArray, List.set_cons_zero, List.set_cons_succ]
    rfl
   refine oz 9 16 HT_.out (fun K hK => ?_)
   refine Kd.R_append_rows_step (Kd.int .u8) (w0 := w0) w0.heap.size (by rfl) (.tmp 11) (.tmp 15) 24 5 (.int .u8 0) 1 rfl Tryd.underlying24 info5 rfl (by decide) (by omega) v124 t123 y126 _ _ _ (fun k_ => (P0_ k_ ∨ w.heap.size ≤ k_) ∧ some k_ ≠ (.slice Ao46 y126.length co46 : Value).ownBlock) (fun _ => False) rfl rfl ?aO ?aR (fun _ _ h => h) (fun _ h => h.elim) ?aF ?aB ?aS ?aL ?_
   (case aR => exact cz (Kd.R_reads' HO128.out).2.2)
   (case aB => exact (hz1 HB.out GE122.out))
   (case aF => exact (fun k_ hk => ⟨(.inr (Nat.le_trans (by first | exact HK.out.1 | exact (show Kept w _ (fun k_ => P0_ k_) from by repeat (first | (with_reducible first | exact HK.out | apply Kept.alloc | apply Kept.drewN | apply Kept.drew | refine Kept.setCell ?_ (.inr GW122.out) _) | exact HK.out)).1) hk)), Kd.fresh' (Kd.R_lt (rz HO128.out)) k_ hk⟩))
   (case aO => exact (rz HO125.out))
   (case aS => exact (below_size (hz1 HB.out GE122.out)))
   (case aL => have := LMc4.out; omega)
   intro v130 w45 ho hb hg hat
   rw [← Ny129.out] at ho
   replace BK122 := am (blk_grown (bz BK122.out) hg (Kd.R_ne HO125.out BK122.out (by decide)))
   replace HO128 := am (Kd.R_after (ok := (fun k_ => (P0_ k_ ∨ w.heap.size ≤ k_))) (rz HO128.out) hg hat)
   replace HB := am (hb)
   replace HK := am (Kept.of_grown (S := (fun k_ => P0_ k_)) hg (by repeat (first | (with_reducible first | exact HK.out | apply Kept.alloc | apply Kept.drewN | apply Kept.drew | refine Kept.setCell ?_ (.inr GW122.out) _) | exact HK.out)) (fun k_ e_ => (HO125.out.1 k_ e_).1))
   have HO131 := am (ho)
   clear HO125
   clear ho hb hg hat
   refine hK.out _ _ ⟨(blk_cell BK122.out 0).trans rfl, (blk_cell BK122.out 1).trans rfl, (blk_cell BK122.out 2).trans rfl, (blk_cell BK122.out 3).trans rfl, (blk_cell BK122.out 4).trans rfl⟩ (fun hHeld => ?_)
   clear hK K
   refine norm_ (a' := ?_) ?_ ?_
   rotate_left
   ·
    show Act.put _ (some 16) _ = _
    simp only [Act.put, List.setIfInBounds_toArray, List.set_cons_zero, List.set_cons_succ, i64_w, i32_w]
    rfl
   refine pz 10 0 HT_.out ?_
   refine done_ (done_of HT_.out (by kernel_rfl)) ?_
   have hcz47_0 : w45.cell? ⟨gb122, 0, none⟩ = some (.int .i64 a1_0) := (blk_cell BK122.out 0).trans rfl
   have hcz47_1 : w45.cell? ⟨gb122, 1, none⟩ = some (.int .i64 a1_1) := (blk_cell BK122.out 1).trans rfl
   have hcz47_2 : w45.cell? ⟨gb122, 2, none⟩ = some (.int .i64 a1_2) := (blk_cell BK122.out 2).trans rfl
   have hcz47_3 : w45.cell? ⟨gb122, 3, none⟩ = some (.string a1_3) := (blk_cell BK122.out 3).trans rfl
   have hcz47_4 : w45.cell? ⟨gb122, 4, none⟩ = some (.slice A1_4 l1_4.length c1_4) := (blk_cell BK122.out 4).trans rfl
   have hfz47_0 := blk_frozen BK122.out 0
   have hfz47_1 := blk_frozen BK122.out 1
   have hfz47_2 := blk_frozen BK122.out 2
   have hfz47_3 := blk_frozen BK122.out 3
   have hfz47_4 := blk_frozen BK122.out 4
   obtain ⟨Ao48, co48, eo48⟩ := Kd.R_slice HO131.out
   subst eo48
   try go_wp2_with (first | ((with_reducible refine gate_callee (f := 55) rfl ?_); refine goesL_ (some 42) rfl rfl Tryd.func55 (by kernel_rfl) rfl #[.slice Ao48 y129.length co48, .int .u64 (IntKind.u64.wrap ((l1_4.length : Int)))] rfl lz ?_; (with_reducible refine (codec_putVarint.calls k (fun k_ => some k_ = (.slice Ao48 y129.length co48 : Value).ownBlock) (.slice Ao48 y129.length co48) y129 (IntKind.u64.wrap ((l1_4.length : Int))) t142 w0 _ ?side1 ?side2 A37.out).mono ?_); (case side1 => exact hz1 HB.out GE122.out); (case side2 => exact Kd.R_tight rfl HO131.out); rintro e w49 ⟨v143, rfl, ho0, hb, hkp⟩; refine ⟨_, rfl, ?_⟩; replace BK122 := am (blk_kept (bz BK122.out) hkp (fun hs_ => (fun e_ => (Kd.R_ne HO131.out BK122.out (by decide)) e_) hs_)); have HO144 := am (Kd.R_mono (ok' := fun k_ => (P0_ k_ ∨ w.heap.size ≤ k_) ∧ some k_ ≠ (.slice Ao46 y126.length co46 : Value).ownBlock) ho0 (fun k_ hk_ => ⟨Or.elim hk_ (fun hs_ => (HO131.out.1 k_ (hs_).symm).1) (fun hn_ => (.inr (Nat.le_trans (by first | exact HK.out.1 | exact (show Kept w _ (fun k_ => P0_ k_) from by repeat (first | (with_reducible first | exact HK.out | apply Kept.alloc | apply Kept.drewN | apply Kept.drew | refine Kept.setCell ?_ (.inr GW122.out) _) | exact HK.out)).1) hn_))), Or.elim hk_ (fun hs_ => fun e_ => (((HO128.out).1 k_ e_.symm).2) hs_) (fun hn_ => (Kd.fresh' (Kd.R_lt (rz HO128.out)) k_ hn_))⟩)); replace HO128 := am (Kd.R_mono (ok' := fun k_ => (P0_ k_ ∨ w.heap.size ≤ k_) ∧ some k_ ≠ (v143 : Value).ownBlock) (Kd.R_keptB (HO128.out) hkp (fun k_ hk_ hs_ => (hk_.2) hs_)) (fun k_ hk_ => ⟨hk_.1.1, fun e_ => Or.elim (ho0.1 k_ e_.symm) (fun hs_ => hk_.2.1 hs_) (fun hn_ => Nat.not_le.2 hk_.2.2 hn_)⟩)); replace HK := am (Kept.then_ (S := (fun k_ => P0_ k_)) (by repeat (first | (with_reducible first | exact HK.out | apply Kept.alloc | apply Kept.drewN | apply Kept.drew | refine Kept.setCell ?_ (.inr GW122.out) _) | exact HK.out)) hkp (fun k_ hs_ => (fun e_ => (HO131.out.1 k_ e_.symm).1) hs_)); replace HB := am (hb); clear HO131; (try clear hb); (try clear hkp); (try clear ho0); obtain ⟨hcz50_0, hcz50_1, hcz50_2, hcz50_3, hcz50_4⟩ := cs5 BK122.out; obtain ⟨hfz50_0, hfz50_1, hfz50_2, hfz50_3, hfz50_4⟩ := fs5 BK122.out))
   go_loopg [0, 46] k (fun kq v0 v46 w' => ∃ (x0_1 : List Int) (x46_1 : Int), v46 = .int .i64 x46_1 ∧ Aside0 (codec_put.l0 kq x0_1 l1_4 (l1_4.length : Int) x46_1 = some r) ∧ Aside0 (kq ≤ k) ∧ Aside0 (Kd.R (Kd.int .u8) 5 w' w0.heap.size (fun k_ => (P0_ k_ ∨ w.heap.size ≤ k_)) v0 x0_1) ∧ Aside0 (w'.heap[gb122]? = some (.cells #[.int .i64 a1_0, .int .i64 a1_1, .int .i64 a1_2, .string a1_3, (.slice A1_4 l1_4.length c1_4)] 43 (0, 0))) ∧ Aside0 (Kept w w' (fun k_ => P0_ k_)) ∧ Aside0 (Below w0.heap.size w0 w'))
   case atStart => exact ⟨(t142), (0), rfz, H', ⟨Nat.le_refl _⟩, ⟨by (with_reducible repeat (first | apply Kd.R_alloc | apply Kd.R_drewN | apply Kd.R_drew)); exact Kd.R_mono HO144.out (fun _ hk => hk.1)⟩, ⟨by (with_reducible repeat (first | refine blk_drewN ?_ _ | refine blk_drew ?_ | refine blk_alloc ?_ _)); exact BK122.out⟩, ⟨by repeat (first | (with_reducible first | exact HK.out | apply Kept.alloc | apply Kept.drewN | apply Kept.drew | refine Kept.setCell ?_ (.inr GW122.out) _) | exact HK.out)⟩, ⟨hz1 HB.out GE122.out⟩⟩
   case round =>
    clear H'
    obtain ⟨x0_1, x46_1, rfl, HA, HK1, HO_0, BK122, HK, HB⟩ := hrel
    cases gk with
    | zero => exact absurd HA.out (by simp [codec_put.l0])
    | succ k1 =>
     have H := HA.out
     clear HA
     simp only [codec_put.l0] at H
     by_cases c51 : x46_1 < (l1_4.length : Int)
     ·
      rw [if_pos c51] at H
      have c51b0 : decide (x46_1 < (l1_4.length : Int)) = true := decide_eq_true c51
      clear c51
      replace H := it_ H
      obtain ⟨c52, H⟩ := H
      have c52b0 : decide (0 ≤ x46_1) = true := decide_eq_true c52
      clear c52
      replace H := it_ H
      obtain ⟨c53, H⟩ := H
      have c53b0 : decide (x46_1 < (l1_4.length : Int)) = true := decide_eq_true c53
      clear c53
      replace H := Option.bind_eq_some_iff.mp H
      obtain ⟨t147, A540, H⟩ := H
      try dsimp only at H
      have A54 := am A540
      clear A540
      have H' := am H
      clear H
      have p145 : 0 ≤ (x46_1 : Int) := of_decide_eq_true az
      have q145 : x46_1 < (l1_4.length : Int) := of_decide_eq_true az
      obtain ⟨ad145, A145_4, c145_4, e145, hx145_0, hx145_1, hx145_2, hx145_3, hx145_4, hl145_4, hi145_4⟩ := at_T43 HR1_4.out x46_1 p145 q145
      cases e145
      replace hx145_0 := pw_cell_below HB.out hx145_0
      replace hx145_1 := pw_cell_below HB.out hx145_1
      replace hx145_2 := pw_cell_below HB.out hx145_2
      replace hx145_3 := pw_cell_below HB.out hx145_3
      replace hx145_4 := pw_cell_below HB.out hx145_4
      have HR145_4 := am hi145_4
      have HC145_4 := am hl145_4
      clear hi145_4 hl145_4
      replace p145 := eq_true p145
      replace q145 := eq_true q145
      go_wp2_with (first | ((with_reducible refine gate_dst (N := 6) rfl ?_); refine box_event rfl (N := 6) rfl (cs := #[.int .i64 0, .int .i64 0, .int .i64 0, .string (⟨#[]⟩ : ByteArray), .slice none 0 0]) (t := 43) gz ?_; intro gb146 hg w55 hbox hb; replace HO_0 := am (Kd.R_below (rz HO_0.out) hb); have BK146 := am (hbox); have GW146 := am ((by rw [hg]; exact (by first | exact HK.out.1 | exact (show Kept w _ (fun k_ => P0_ k_) from by repeat (first | (with_reducible first | exact HK.out | apply Kept.alloc | apply Kept.drewN | apply Kept.drew | refine Kept.setCell ?_ (.inr GW122.out) _) | exact HK.out)).1) : w.heap.size ≤ gb146)); replace HK := am (Kept.below (S := (fun k_ => P0_ k_)) (by repeat (first | (with_reducible first | exact HK.out | apply Kept.alloc | apply Kept.drewN | apply Kept.drew | refine Kept.setCell ?_ (.inr GW122.out) _) | exact HK.out)) hb); have GE146 := am ((bs hg (hz1 HB.out GE122.out) : w0.heap.size ≤ gb146)); replace HB := am (below_step (hz1 HB.out GE122.out) hb); have NB122_146 := am ((nl hg (bz BK122.out) : gb122 ≠ gb146)); have NB146_122 := am ((ng hg (bz BK122.out) : gb146 ≠ gb122)); replace BK122 := am (blk_below (bz BK122.out) hb); clear hb hbox hg; have hnb56 := NB146_122.out; have hnc56 := NB122_146.out; obtain ⟨hcz57_0, hcz57_1, hcz57_2, hcz57_3, hcz57_4⟩ := cs5 BK146.out; obtain ⟨hfz57_0, hfz57_1, hfz57_2, hfz57_3, hfz57_4⟩ := fs5 BK146.out) | ((with_reducible refine gate_store (t := 43) (p := 6) rfl ?_); refine store_event (t := 43) (p := 6) (v := ?vo_w58) (w1 := (((((w55.setCell ⟨gb146, 0, none⟩ (.int .i64 ((rd_T43 l1_4 x46_1).f0))).setCell ⟨gb146, 1, none⟩ (.int .i64 ((rd_T43 l1_4 x46_1).f1))).setCell ⟨gb146, 2, none⟩ (.int .i64 ((rd_T43 l1_4 x46_1).f2))).setCell ⟨gb146, 3, none⟩ (.string ((rd_T43 l1_4 x46_1).f3))).setCell ⟨gb146, 4, none⟩ (.slice A145_4 ((rd_T43 l1_4 x46_1).f4).length c145_4))) ?hg ?ho ?hn ?hr ?_; (case ho => rfl); (case hg => rfl); (case hn => rfl); (case hr => exact gz); intro w58 hw; replace HO_0 : Aside0 (Kd.R (Kd.int .u8) 5 w58 w0.heap.size (fun k_ => (P0_ k_ ∨ w.heap.size ≤ k_)) u0 x0_1) := ⟨(by rw [hw]; exact (rz (Kd.R_mono (Kd.R_far (p := ⟨gb146, 4, none⟩) (rfg4 HO_0.out BK146.out) (fun _ hk => hk.2) (.slice A145_4 ((rd_T43 l1_4 x46_1).f4).length c145_4)) (fun _ hk => hk.1))))⟩; replace BK122 : Aside0 (w58.heap[gb122]? = some (.cells #[.int .i64 a1_0, .int .i64 a1_1, .int .i64 a1_2, .string a1_3, .slice (some ad145) l1_4.length c1_4] 43 (0, 0))) := ⟨(by rw [hw]; exact (bf1 NB122_146.out BK122.out))⟩; replace BK146 : Aside0 (w58.heap[gb146]? = some (.cells #[.int .i64 ((rd_T43 l1_4 x46_1).f0), .int .i64 ((rd_T43 l1_4 x46_1).f1), .int .i64 ((rd_T43 l1_4 x46_1).f2), .string ((rd_T43 l1_4 x46_1).f3), .slice A145_4 ((rd_T43 l1_4 x46_1).f4).length c145_4] 43 (0, 0))) := ⟨(by rw [hw]; exact (bp BK146.out))⟩; replace HK : Aside0 (Kept w w58 (fun k_ => P0_ k_)) := ⟨(by rw [hw]; exact (by repeat (first | (with_reducible first | exact HK.out | apply Kept.alloc | apply Kept.drewN | apply Kept.drew | refine Kept.setCell ?_ (.inr GW122.out) _ | refine Kept.setCell ?_ (.inr GW146.out) _) | exact HK.out)))⟩; replace HB : Aside0 (Below w0.heap.size w0 w58) := ⟨(by rw [hw]; exact (hz2 HB.out GE122.out GE146.out))⟩; clear hw; obtain ⟨hcz59_0, hcz59_1, hcz59_2, hcz59_3, hcz59_4⟩ := cs5 BK146.out; obtain ⟨hfz59_0, hfz59_1, hfz59_2, hfz59_3, hfz59_4⟩ := fs5 BK146.out; obtain ⟨Ao60, co60, eo60⟩ := Kd.R_slice HO_0.out; subst eo60) | ((with_reducible refine gate_callee (f := 43) rfl ?_); refine goesL_ (some 52) rfl rfl Tryd.func43 (by kernel_rfl) rfl #[.slice Ao60 x0_1.length co60, .agg #[.int .i64 ((rd_T43 l1_4 x46_1).f0), .int .i64 ((rd_T43 l1_4 x46_1).f1), .int .i64 ((rd_T43 l1_4 x46_1).f2), .string ((rd_T43 l1_4 x46_1).f3), .slice A145_4 ((rd_T43 l1_4 x46_1).f4).length c145_4]] rfl lz ?_; (with_reducible refine (ih k1 (by have := HK1.out; omega) (fun k_ => some k_ = (.slice Ao60 x0_1.length co60 : Value).ownBlock) (.slice Ao60 x0_1.length co60) x0_1 ((rd_T43 l1_4 x46_1).f0) ((rd_T43 l1_4 x46_1).f1) ((rd_T43 l1_4 x46_1).f2) ((rd_T43 l1_4 x46_1).f3) _ _ ((rd_T43 l1_4 x46_1).f4) t147 w0 _ ?side1 ?side2 ?side3 ?side4 A54.out).mono ?_); (case side1 => exact hz2 HB.out GE122.out GE146.out); (case side2 => exact Kd.R_tight rfl HO_0.out); (case side3 => exact HR145_4.out); (case side4 => exact HC145_4.out); rintro e w61 ⟨v148, rfl, ho0, hb, hkp⟩; refine ⟨_, rfl, ?_⟩; replace BK122 := am (blk_kept (bz BK122.out) hkp (fun hs_ => (fun e_ => (Kd.R_ne HO_0.out BK122.out (by decide)) e_) hs_)); replace BK146 := am (blk_kept (bz BK146.out) hkp (fun hs_ => (fun e_ => (Kd.R_ne HO_0.out BK146.out (by decide)) e_) hs_)); have HO149 := am (Kd.R_mono (ok' := fun k_ => (P0_ k_ ∨ w.heap.size ≤ k_)) ho0 (fun k_ hk_ => Or.elim hk_ (fun hs_ => (HO_0.out.1 k_ (hs_).symm)) (fun hn_ => (.inr (Nat.le_trans (by first | exact HK.out.1 | exact (show Kept w _ (fun k_ => P0_ k_) from by repeat (first | (with_reducible first | exact HK.out | apply Kept.alloc | apply Kept.drewN | apply Kept.drew | refine Kept.setCell ?_ (.inr GW122.out) _ | refine Kept.setCell ?_ (.inr GW146.out) _) | exact HK.out)).1) hn_))))); replace HK := am (Kept.then_ (S := (fun k_ => P0_ k_)) (by repeat (first | (with_reducible first | exact HK.out | apply Kept.alloc | apply Kept.drewN | apply Kept.drew | refine Kept.setCell ?_ (.inr GW122.out) _ | refine Kept.setCell ?_ (.inr GW146.out) _) | exact HK.out)) hkp (fun k_ hs_ => (fun e_ => (HO_0.out.1 k_ e_.symm)) hs_)); replace HB := am (hb); clear HO_0; (try clear hb); (try clear hkp); (try clear ho0)))
      go_roundg k1
      case measure => have := HK1.out; omega
      case rel => exact ⟨(t147), (wrap64 (x46_1 + 1)), rfz, H', ⟨by have := HK1.out; omega⟩, ⟨rz HO149.out⟩, ⟨by (with_reducible repeat (first | refine blk_drewN ?_ _ | refine blk_drew ?_ | refine blk_alloc ?_ _)); exact BK122.out⟩, ⟨by repeat (first | (with_reducible first | exact HK.out | apply Kept.alloc | apply Kept.drewN | apply Kept.drew | refine Kept.setCell ?_ (.inr GW122.out) _ | refine Kept.setCell ?_ (.inr GW146.out) _) | exact HK.out)⟩, ⟨hz2 HB.out GE122.out GE146.out⟩⟩
     ·
      rw [if_neg c51] at H
      have c51b0 : decide (x46_1 < (l1_4.length : Int)) = false := decide_eq_false c51
      clear c51
      obtain rfl := Option.some.inj H
      go_wp2
      go_ret
      exact ⟨_, ew, rz HO_0.out, hz1 HB.out GE122.out, by repeat (first | (with_reducible first | exact HK.out | apply Kept.alloc | apply Kept.drewN | apply Kept.drew | refine Kept.setCell ?_ (.inr GW122.out) _) | exact HK.out)⟩

end Go.Proofs.YteeggfnailpcpaaDoor.Q
