/- Made by wip/myprint.py of this session (it drives the kit's printer): what the calls of the Go functions come to, as plain Lean functions, and the row of a law over them; without conditions. -/
import Derived.Test.YteeggfnailpcpaaDoorQx0
import Derived.Test.YteeggfnailpcpaaDoorQx1
import Derived.Test.YteeggfnailpcpaaDoorQx2
import Derived.Test.YteeggfnailpcpaaDoorQx3
namespace Go.Proofs.YteeggfnailpcpaaDoor.Q
open Go.RowKit Go.Proofs.YteeggfnailpcpaaDoorW.PrintWords Go.Proofs.YteeggfnailpcpaaDoorW.PrintLast Go.Proofs.YteeggfnailpcpaaDoorW.PrintMore
attribute [local go_sem] max2_int min2_int max_two min_two max_three min_three max_four min_four   -- for this text's walks alone
set_option linter.unusedVariables false
set_option linter.unusedSimpArgs false

/-! ### codec_Encode: function 30 -/
def codec_Encode.f (k : Nat) (a0_0 : Int) (a0_1 : Int) (a0_2 : Int) (a0_3 : ByteArray) (l0_4 : List (S43)) : Option (List Int × Int) := (codec_size.f k a0_0 a0_1 a0_2 a0_3 l0_4 1).bind fun t151 => (if t151 < 0 then (some (([] : List Int), 1)) else (if 0 ≤ t151 then (if (t151 : Int).toNat ≤ 281474976710656 then ((codec_put.f k (([] : List Int)) a0_0 a0_1 a0_2 a0_3 l0_4).bind fun t155 => (some (t155, 0))) else (none)) else (none)))
theorem codec_Encode.mono : ∀ a0 a1 a2 a3 a4 k, LeO (codec_Encode.f k a0 a1 a2 a3 a4) (codec_Encode.f (k + 1) a0 a1 a2 a3 a4) := by
 intro a0 a1 a2 a3 a4 k
 unfold codec_Encode.f
 repeat' first
   | (with_reducible exact codec_put.mono _ _ _ _ _ _ _)
   | (with_reducible exact codec_size.mono _ _ _ _ _ _ _)
   | (with_reducible exact LeO.refl _)
   | (with_reducible exact LeO.none _)
   | (with_reducible refine LeO.ite ?_ ?_)
   | (with_reducible refine LeO.bind ?_ (fun _ => ?_))
   | exact codec_put.mono _ _ _ _ _ _ _
   | exact codec_size.mono _ _ _ _ _ _ _
   | exact LeO.none _
   | refine LeO.ite ?_ ?_
   | refine LeO.bind ?_ (fun _ => ?_)
set_option maxHeartbeats 8000000 in
set_option maxRecDepth 100000 in
theorem codec_Encode.calls (k : Nat) (a0_0 : Int) (a0_1 : Int) (a0_2 : Int) (a0_3 : ByteArray) (A0_4 : Option Addr) (c0_4 : Nat) (l0_4 : List (S43)) (r1 : List Int) (r2 : Int) (w : World) (hr0_4 : Kd.C k43 w A0_4 l0_4.length l0_4) (hc0_4 : l0_4.length ≤ c0_4) (h : codec_Encode.f k a0_0 a0_1 a0_2 a0_3 l0_4 = some (r1, r2)) :
  Calls Tryd.prog 30 #[.agg #[.int .i64 a0_0, .int .i64 a0_1, .int .i64 a0_2, .string a0_3, .slice A0_4 l0_4.length c0_4]] w fun e w' => ∃ v0_ : Value, e = .returned (.tuple #[v0_, .int .i64 r2]) ∧ Kd.R (Kd.int .u8) 5 w' w.heap.size (fun _ => True) v0_ r1 ∧ Below w.heap.size w w' := by
 have hu43 := Tryd.underlying43
 have HR0_4 := am hr0_4
 have HC0_4 := am hc0_4
 clear hr0_4 hc0_4
 have HB := am (Below.refl w.heap.size w)
 have H : ((codec_size.f k a0_0 a0_1 a0_2 a0_3 l0_4 1).bind fun t151 => (if t151 < 0 then (some (([] : List Int), 1)) else (if 0 ≤ t151 then (if (t151 : Int).toNat ≤ 281474976710656 then ((codec_put.f k (([] : List Int)) a0_0 a0_1 a0_2 a0_3 l0_4).bind fun t155 => (some (t155, 0))) else (none)) else (none)))) = some (r1, r2) := h
 clear h
 replace H := Option.bind_eq_some_iff.mp H
 obtain ⟨t151, A20, H⟩ := H
 try dsimp only at H
 have A2 := am A20
 clear A20
 by_cases c3 : t151 < 0
 ·
  rw [if_pos c3] at H
  have c3b0 : decide (t151 < 0) = true := decide_eq_true c3
  clear c3
  simp only [Option.some.injEq, Prod.mk.injEq] at H
  obtain ⟨rfl, rfl⟩ := H
  go_enter Tryd.func30, Tryd.ntmps30
  go_wp2_with (first | ((with_reducible refine gate_dst (N := 1) rfl ?_); refine box_event rfl (N := 1) rfl (cs := #[.int .i64 a0_0, .int .i64 a0_1, .int .i64 a0_2, .string a0_3, .slice A0_4 l0_4.length c0_4]) (t := 43) gz ?_; intro gb150 hg w4 hbox hb; have BK150 := am (hbox); have GW150 := am ((bs hg (hz HB.out) : w.heap.size ≤ gb150)); have GE150 := am ((bs hg (hz HB.out) : w.heap.size ≤ gb150)); replace HB := am (below_step (hz HB.out) hb); clear hb hbox hg; obtain ⟨hcz5_0, hcz5_1, hcz5_2, hcz5_3, hcz5_4⟩ := cs5 BK150.out; obtain ⟨hfz5_0, hfz5_1, hfz5_2, hfz5_3, hfz5_4⟩ := fs5 BK150.out) | ((with_reducible refine gate_callee (f := 42) rfl ?_); refine goesL_ (some 6) rfl rfl Tryd.func42 (by kernel_rfl) rfl #[.agg #[.int .i64 a0_0, .int .i64 a0_1, .int .i64 a0_2, .string a0_3, .slice A0_4 l0_4.length c0_4], .int .i64 1] rfl lz ?_; (with_reducible refine (codec_size.calls k a0_0 a0_1 a0_2 a0_3 _ _ l0_4 1 t151 _ ?side1 ?side2 A2.out).mono ?_); (case side1 => exact cz (Kd.C_below HR0_4.out HB.out)); (case side2 => exact HC0_4.out); rintro e w6 ⟨rfl, hb⟩; refine ⟨_, rfl, ?_⟩; replace BK150 := am (blk_below (bz BK150.out) hb); replace HB := am (below_step (hz1 HB.out GE150.out) hb)))
  go_ret2
  exact ⟨_, ew, nlz, hz1 HB.out GE150.out⟩
 ·
  rw [if_neg c3] at H
  have c3b0 : decide (t151 < 0) = false := decide_eq_false c3
  clear c3
  replace H := it_ H
  obtain ⟨c7, H⟩ := H
  have c7b0 := eq_true c7
  have c7b1 : decide (0 ≤ t151) = true := decide_eq_true c7
  clear c7
  replace H := it_ H
  obtain ⟨c8, H⟩ := H
  have c8b0 := eq_true c8
  have c8b1 : decide ((t151 : Int).toNat ≤ 281474976710656) = true := decide_eq_true c8
  clear c8
  obtain ⟨y152, hy152⟩ : ∃ y_ : List Int, y_ = (([] : List Int)) := ⟨_, rfl⟩
  replace H : ((codec_put.f k y152 a0_0 a0_1 a0_2 a0_3 l0_4).bind fun t155 => (some (t155, 0))) = some (r1, r2) := by first | (rw [hy152]; with_reducible exact H) | (have H2_ := (Option.bind_some _ _).symm.trans H; rw [hy152]; with_reducible exact H2_) | (have H2_ := (Option.bind_some _ _).symm.trans H; with_reducible exact H2_) | with_reducible exact H | (rw [hy152]; exact H) | exact H
  have Ny152 := am hy152
  clear hy152
  replace H := Option.bind_eq_some_iff.mp H
  obtain ⟨t155, A90, H⟩ := H
  try dsimp only at H
  have A9 := am A90
  clear A90
  simp only [Option.some.injEq, Prod.mk.injEq] at H
  obtain ⟨rfl, rfl⟩ := H
  go_enter Tryd.func30, Tryd.ntmps30
  try go_wp2_with (first | ((with_reducible refine gate_dst (N := 1) rfl ?_); refine box_event rfl (N := 1) rfl (cs := #[.int .i64 a0_0, .int .i64 a0_1, .int .i64 a0_2, .string a0_3, .slice A0_4 l0_4.length c0_4]) (t := 43) gz ?_; intro gb150 hg w10 hbox hb; have BK150 := am (hbox); have GW150 := am ((bs hg (hz HB.out) : w.heap.size ≤ gb150)); have GE150 := am ((bs hg (hz HB.out) : w.heap.size ≤ gb150)); replace HB := am (below_step (hz HB.out) hb); clear hb hbox hg; obtain ⟨hcz11_0, hcz11_1, hcz11_2, hcz11_3, hcz11_4⟩ := cs5 BK150.out; obtain ⟨hfz11_0, hfz11_1, hfz11_2, hfz11_3, hfz11_4⟩ := fs5 BK150.out) | ((with_reducible refine gate_callee (f := 42) rfl ?_); refine goesL_ (some 6) rfl rfl Tryd.func42 (by kernel_rfl) rfl #[.agg #[.int .i64 a0_0, .int .i64 a0_1, .int .i64 a0_2, .string a0_3, .slice A0_4 l0_4.length c0_4], .int .i64 1] rfl lz ?_; (with_reducible refine (codec_size.calls k a0_0 a0_1 a0_2 a0_3 _ _ l0_4 1 t151 _ ?side1 ?side2 A2.out).mono ?_); (case side1 => exact cz (Kd.C_below HR0_4.out HB.out)); (case side2 => exact HC0_4.out); rintro e w12 ⟨rfl, hb⟩; refine ⟨_, rfl, ?_⟩; replace BK150 := am (blk_below (bz BK150.out) hb); replace HB := am (below_step (hz1 HB.out GE150.out) hb)))
  replace BK150 := am (blk_drew BK150.out)
  replace HB := am (below_drew1 HB.out)
  refine start_ (n := 6) (S := fun w' => w'.cell? ⟨gb150, 0, none⟩ = some (.int .i64 a0_0) ∧ w'.cell? ⟨gb150, 1, none⟩ = some (.int .i64 a0_1) ∧ w'.cell? ⟨gb150, 2, none⟩ = some (.int .i64 a0_2) ∧ w'.cell? ⟨gb150, 3, none⟩ = some (.string a0_3) ∧ w'.cell? ⟨gb150, 4, none⟩ = some (.slice A0_4 l0_4.length c0_4)) (ds := []) #[false, false, false, false, false, false] (by kernel_rfl) rfl rfl ⟨(blk_cell BK150.out 0).trans rfl, (blk_cell BK150.out 1).trans rfl, (blk_cell BK150.out 2).trans rfl, (blk_cell BK150.out 3).trans rfl, (blk_cell BK150.out 4).trans rfl⟩ (fun hHeld => ?_)
  generalize w12.drew = w13 at BK150 HB hHeld ⊢
  refine pure_ (i := 0) (N := some 9) (v := ?_) (a' := ?_) #[true, false, false, false, false, false] rfl rfl (by kernel_rfl) (fun _ _ _ h => h) (Or.inl ⟨by rfl, ?_⟩) ?_ ?_
  rotate_left
  ·
   intro w'
   go_simp
   with_reducible rfl
  rotate_left
  ·
   simp only [Act.put, List.setIfInBounds_toArray, List.set_cons_zero, List.set_cons_succ, i64_w, i32_w]
   rfl
  refine take_ (i := 2) (N := some 11) (v := ?_) (a' := ?_) #[true, false, true, false, false, false] rfl rfl (by kernel_rfl) (fun _ _ _ h => h) (Or.inl ⟨by rfl, ?_⟩) hHeld ?_ ?_
  rotate_left
  ·
   rintro w' ⟨s0, s1, s2, s3, s4⟩
   go_simp
   with_reducible rfl
  rotate_left
  ·
   simp only [Act.put, List.setIfInBounds_toArray, List.set_cons_zero, List.set_cons_succ, i64_w, i32_w]
   rfl
  refine one_ (i := 1) (N := some 10) #[true, true, true, false, false, false] rfl rfl (by kernel_rfl) (by decide) (fun K hK => ?_)
  refine make0_step (Kd.int .u8) _ 5 (by rfl) (N := 10) rfl 24 _ _ rfl t151 rfl rfl Tryd.underlying24 (.int .u8 0) 1 info5 (ok := fun _ => True) (okp := fun _ => True) (fun _ hk => hk) trivial (of_decide_eq_true az) (Nat.le_trans (Nat.mul_le_mul_right _ (of_decide_eq_true az : t151.toNat ≤ 281474976710656)) (by omega)) (by omega) (Below.refl _ _) (Nat.le_refl _) ?_
  intro v153 w14 ho15 hb hg_ hnew_
  clear hg_ hnew_
  (first | rw [← Ny152.out] at ho15 | (simp only [Int.reduceToNat] at ho15; rw [← Ny152.out] at ho15))
  have HO154 := am (Kd.R_lower ho15 (below_size (hz1 HB.out GE150.out)))
  replace BK150 := am (blk_below (bz BK150.out) hb)
  replace HB := am (below_step (hz1 HB.out GE150.out) hb)
  clear hb ho15
  obtain ⟨Ao16, co16, eo16⟩ := Kd.R_slice HO154.out
  (first | subst eo16 | (injection eo16 with f1_ f2_ f3_; have f4_ := f1_.symm; have f5_ := f3_.symm; clear f1_ f2_ f3_; subst f4_; subst f5_))
  refine hK.out _ _ ⟨(blk_cell BK150.out 0).trans rfl, (blk_cell BK150.out 1).trans rfl, (blk_cell BK150.out 2).trans rfl, (blk_cell BK150.out 3).trans rfl, (blk_cell BK150.out 4).trans rfl⟩ (fun hHeld => ?_)
  clear hK K
  refine norm_ (a' := ?_) ?_ ?_
  rotate_left
  ·
   show Act.put _ (some 10) _ = _
   simp only [Act.put, List.setIfInBounds_toArray, List.set_cons_zero, List.set_cons_succ, i64_w, i32_w]
   rfl
  refine one_ (i := 3) (N := some 12) #[true, true, true, true, false, false] rfl rfl (by kernel_rfl) (by decide) (fun K hK => ?_)
  refine goes_ Tryd.func43 (by kernel_rfl) rfl #[.slice Ao16 y152.length co16, .agg #[.int .i64 a0_0, .int .i64 a0_1, .int .i64 a0_2, .string a0_3, .slice A0_4 l0_4.length c0_4]] (by rfl) rfl rfl lz ?_
  with_reducible refine (codec_put.calls k (fun k_ => some k_ = (.slice Ao16 y152.length co16 : Value).ownBlock) (.slice Ao16 y152.length co16) y152 a0_0 a0_1 a0_2 a0_3 _ _ l0_4 t155 w _ ?side1 ?side2 ?side3 ?side4 A9.out).mono ?_
  (case side1 => exact hz1 HB.out GE150.out)
  (case side2 => exact Kd.R_tight rfl HO154.out)
  (case side3 => exact HR0_4.out)
  (case side4 => exact HC0_4.out)
  rintro e w17 ⟨v156, rfl, ho0, hb, hkp⟩
  refine ⟨_, rfl, ?_⟩
  replace BK150 := am (blk_kept (bz BK150.out) hkp (fun hs_ => (fun e_ => (Kd.R_ne HO154.out BK150.out (by decide)) e_) hs_))
  have HO157 := am (Kd.R_mono (ok' := fun k_ => True) ho0 (fun k_ hk_ => trivial))
  replace HB := am (hb)
  clear HO154
  (try clear hb)
  (try clear hkp)
  (try clear ho0)
  refine hK.out _ _ ⟨(blk_cell BK150.out 0).trans rfl, (blk_cell BK150.out 1).trans rfl, (blk_cell BK150.out 2).trans rfl, (blk_cell BK150.out 3).trans rfl, (blk_cell BK150.out 4).trans rfl⟩ (fun hHeld => ?_)
  clear hK K
  refine norm_ (a' := ?_) ?_ ?_
  rotate_left
  ·
   show Act.put _ (some 12) _ = _
   simp only [Act.put, List.setIfInBounds_toArray, List.set_cons_zero, List.set_cons_succ, i64_w, i32_w]
   rfl
  refine pure_ (i := 4) (N := some 2) (v := ?_) (a' := ?_) #[true, true, true, true, true, false] rfl rfl (by kernel_rfl) (fun _ _ _ h => h) (Or.inl ⟨by rfl, ?_⟩) ?_ ?_
  rotate_left
  ·
   intro w'
   go_simp
   with_reducible rfl
  rotate_left
  ·
   simp only [Act.put, List.setIfInBounds_toArray, List.set_cons_zero, List.set_cons_succ, i64_w, i32_w]
   rfl
  refine pure_ (i := 5) (N := some 3) (v := ?_) (a' := ?_) #[true, true, true, true, true, true] rfl rfl (by kernel_rfl) (fun _ _ _ h => h) (Or.inl ⟨by rfl, ?_⟩) ?_ ?_
  rotate_left
  ·
   intro w'
   go_simp
   with_reducible rfl
  rotate_left
  ·
   simp only [Act.put, List.setIfInBounds_toArray, List.set_cons_zero, List.set_cons_succ, i64_w, i32_w]
   rfl
  refine done_ (by kernel_rfl) ?_
  try go_wp2
  go_ret2
  exact ⟨_, ew, rz HO157.out, hz1 HB.out GE150.out⟩

/-! ### digest_Of: function 25 -/
def digest_Of.f (k : Nat) (l0 : List Int) : Option (Int) := (digest_Add.f k 14695981039346656037 l0).bind fun t158 => (some t158)
theorem digest_Of.mono : ∀ a0 k, LeO (digest_Of.f k a0) (digest_Of.f (k + 1) a0) := by
 intro a0 k
 unfold digest_Of.f
 repeat' first
   | (with_reducible exact digest_Add.mono _ _ _)
   | (with_reducible exact LeO.refl _)
   | (with_reducible exact LeO.none _)
   | (with_reducible refine LeO.ite ?_ ?_)
   | (with_reducible refine LeO.bind ?_ (fun _ => ?_))
   | exact digest_Add.mono _ _ _
   | exact LeO.none _
   | refine LeO.ite ?_ ?_
   | refine LeO.bind ?_ (fun _ => ?_)
set_option maxHeartbeats 8000000 in
set_option maxRecDepth 100000 in
theorem digest_Of.calls (k : Nat) (A0 : Option Addr) (c0 : Nat) (l0 : List Int) (r : Int) (w : World) (hr0 : Kd.C (Kd.int .u8) w A0 l0.length l0) (hc0 : l0.length ≤ c0) (h : digest_Of.f k l0 = some r) :
  Calls Tryd.prog 25 #[.slice A0 l0.length c0] w fun e w' => e = .returned (.int .u64 r) ∧ Drawn0 w w' := by
 have HR0 := am hr0
 have HC0 := am hc0
 clear hr0 hc0
 have H : ((digest_Add.f k 14695981039346656037 l0).bind fun t158 => (some t158)) = some r := h
 clear h
 replace H := Option.bind_eq_some_iff.mp H
 obtain ⟨t158, A20, H⟩ := H
 try dsimp only at H
 have A2 := am A20
 clear A20
 obtain rfl := Option.some.inj H
 go_enter Tryd.func25, Tryd.ntmps25
 go_wp2_with (first | ((with_reducible refine gate_callee (f := 24) rfl ?_); refine goesL_ (some 4) rfl rfl Tryd.func24 (by kernel_rfl) rfl #[.int .u64 14695981039346656037, .slice A0 l0.length c0] rfl lz ?_; (with_reducible refine (digest_Add.calls k 14695981039346656037 _ _ l0 t158 _ ?side1 ?side2 A2.out).mono ?_); (case side1 => exact cz HR0.out); (case side2 => exact HC0.out); rintro e w' ⟨rfl, ⟨nd, rfl⟩⟩; refine ⟨_, rfl, ?_⟩))
 go_ret
 exact ⟨by first | rfl | (simp; done) | (simp [*]; done), by repeat (first | exact Drawn0.refl _ | apply Drawn0.step)⟩

/-! ### journal_number: function 56 -/
def journal_number.l0 : Nat → Int → List Int → Int → Int → Option (Int)
 | 0, _, _, _, _ => none
 | k + 1, x3, x6, x7, x8 => if x8 < x7 then (if 0 ≤ x8 then (if x8 < (x6.length : Int) then (journal_number.l0 k (Go.bits .or .u64 (IntKind.u64.wrap (x3 * 256)) (IntKind.u64.wrap (rd x6 x8))) x6 x7 (wrap64 (x8 + 1))) else (none)) else (none)) else (some x3)
def journal_number.f (k : Nat) (l0 : List Int) : Option (Int) := journal_number.l0 k 0 l0 (l0.length : Int) 0
theorem journal_number.mono_l : ∀ k, (∀ y0 y1 y2 y3, LeO (journal_number.l0 k y0 y1 y2 y3) (journal_number.l0 (k + 1) y0 y1 y2 y3))
 | 0 => fun _ _ _ _ r h => by simp [journal_number.l0] at h
 | k + 1 => by
  have ih0 := journal_number.mono_l k
  ·
   intro y0 y1 y2 y3
   unfold journal_number.l0
   repeat' first
   | (with_reducible exact ih0 _ _ _ _)
   | (with_reducible exact LeO.refl _)
   | (with_reducible exact LeO.none _)
   | (with_reducible refine LeO.ite ?_ ?_)
   | (with_reducible refine LeO.bind ?_ (fun _ => ?_))
   | exact ih0 _ _ _ _
   | exact LeO.none _
   | refine LeO.ite ?_ ?_
   | refine LeO.bind ?_ (fun _ => ?_)
theorem journal_number.mono : ∀ a0 k, LeO (journal_number.f k a0) (journal_number.f (k + 1) a0) := by
 intro a0 k
 have ih0 := journal_number.mono_l k
 unfold journal_number.f
 repeat' first
   | (with_reducible exact ih0 _ _ _ _)
   | (with_reducible exact LeO.refl _)
   | (with_reducible exact LeO.none _)
   | (with_reducible refine LeO.ite ?_ ?_)
   | (with_reducible refine LeO.bind ?_ (fun _ => ?_))
   | exact ih0 _ _ _ _
   | exact LeO.none _
   | refine LeO.ite ?_ ?_
   | refine LeO.bind ?_ (fun _ => ?_)
set_option maxHeartbeats 8000000 in
set_option maxRecDepth 100000 in
theorem journal_number.calls (k : Nat) (A0 : Option Addr) (c0 : Nat) (l0 : List Int) (r : Int) (w : World) (hr0 : Kd.C (Kd.int .u8) w A0 l0.length l0) (hc0 : l0.length ≤ c0) (h : journal_number.f k l0 = some r) :
  Calls Tryd.prog 56 #[.slice A0 l0.length c0] w fun e w' => e = .returned (.int .u64 r) ∧ Drawn0 w w' := by
 have HR0 := am hr0
 have HC0 := am hc0
 clear hr0 hc0
 have H : (journal_number.l0 k 0 l0 (l0.length : Int) 0) = some r := h
 clear h
 have H' := am H
 clear H
 go_enter Tryd.func56, Tryd.ntmps56
 go_wp2
 go_loopg [3, 8] k (fun kq v3 v8 w' => ∃ (x3_1 : Int) (x8_1 : Int), v3 = .int .u64 x3_1 ∧ v8 = .int .i64 x8_1 ∧ Aside0 (journal_number.l0 kq x3_1 l0 (l0.length : Int) x8_1 = some r) ∧ Aside0 (kq ≤ k) ∧ Drawn0 w w')
 case atStart => exact ⟨(0), (0), rfz, rfz, H', ⟨Nat.le_refl _⟩, by repeat (first | exact Drawn0.refl _ | apply Drawn0.step)⟩
 case round =>
  clear H'
  obtain ⟨x3_1, x8_1, rfl, rfl, HA, HK1, ⟨m1, rfl⟩⟩ := hrel
  cases gk with
  | zero => exact absurd HA.out (by simp [journal_number.l0])
  | succ k1 =>
   have H := HA.out
   clear HA
   simp only [journal_number.l0] at H
   by_cases c2 : x8_1 < (l0.length : Int)
   ·
    rw [if_pos c2] at H
    have c2b0 : decide (x8_1 < (l0.length : Int)) = true := decide_eq_true c2
    clear c2
    replace H := it_ H
    obtain ⟨c3, H⟩ := H
    have c3b0 : decide (0 ≤ x8_1) = true := decide_eq_true c3
    clear c3
    replace H := it_ H
    obtain ⟨c4, H⟩ := H
    have c4b0 : decide (x8_1 < (l0.length : Int)) = true := decide_eq_true c4
    clear c4
    have H' := am H
    clear H
    have p159 : 0 ≤ (x8_1 : Int) := of_decide_eq_true az
    have q159 : x8_1 < (l0.length : Int) := of_decide_eq_true az
    obtain ⟨ad159, e159, hx159_0⟩ := Kd.at_int HR0.out x8_1 p159 q159
    cases e159
    replace p159 := eq_true p159
    replace q159 := eq_true q159
    go_wp2
    go_roundg k1
    case measure => have := HK1.out; omega
    case rel => exact ⟨(Go.bits .or .u64 (IntKind.u64.wrap (x3_1 * 256)) (IntKind.u64.wrap (rd l0 x8_1))), (wrap64 (x8_1 + 1)), rfz, rfz, H', ⟨by have := HK1.out; omega⟩, by repeat (first | exact Drawn0.refl _ | apply Drawn0.step)⟩
   ·
    rw [if_neg c2] at H
    have c2b0 : decide (x8_1 < (l0.length : Int)) = false := decide_eq_false c2
    clear c2
    obtain rfl := Option.some.inj H
    go_wp2
    go_ret
    exact ⟨by first | rfl | (simp; done) | (simp [*]; done), by repeat (first | exact Drawn0.refl _ | apply Drawn0.step)⟩

/-- A state of type 99 at block g of W; what its slices lead to came in by w0. -/
def IsS99 (w0 W : World) (g : Nat) (f0 : List Int) (f1 : Int) : Prop := ∃ A0 c0, W.heap[g]? = some (.cells #[.slice A0 f0.length c0, .int .i64 f1] 99 (0, 0)) ∧ w0.heap.size ≤ g ∧ Kd.C (Kd.int .u8) w0 A0 f0.length f0
theorem IsS99.grown {w0 W : World} {g : Nat} {f0 : List Int} {f1 : Int} {W1 : World} {row : Option Nat} (h : IsS99 w0 W g f0 f1) (hw : W.grownBy W1 row) (hne : some g ≠ row) : IsS99 w0 W1 g f0 f1 := by
 obtain ⟨A0, c0, hb, hg, hr0⟩ := h
 exact ⟨A0, c0, blk_grown hb hw hne, hg, hr0⟩
theorem IsS99.own_neN {w0 W : World} {g : Nat} {f0 : List Int} {f1 : Int} {α : Type} {d : Kd α} {e : Nat} {base : Nat} {ok : Nat → Prop} {v : Value} {xs : List α} (h : IsS99 w0 W g f0 f1) (ho : Kd.N d e W base ok v xs) (ht : e ≠ 99) : some g ≠ v.ownBlock := by
 obtain ⟨A0, c0, hb, hg, hr0⟩ := h
 exact Kd.N_ne ho hb ht
theorem IsS99.fresh {w0 W : World} {g : Nat} {f0 : List Int} {f1 : Int} (h : IsS99 w0 W g f0 f1) : ∀ k, W.heap.size ≤ k → k ≠ g := by
 obtain ⟨A0, c0, hb, hg, hr0⟩ := h
 exact Kd.freshB hb
theorem IsS99.kept {w0 W : World} {g : Nat} {f0 : List Int} {f1 : Int} {W1 : World} {S : Nat → Prop} (h : IsS99 w0 W g f0 f1) (hk : Kept W W1 S) (hne : ¬ S g) : IsS99 w0 W1 g f0 f1 := by
 obtain ⟨A0, c0, hb, hg, hr0⟩ := h
 exact ⟨A0, c0, blk_kept hb hk hne, hg, hr0⟩
theorem IsS99.below {w0 W : World} {g : Nat} {f0 : List Int} {f1 : Int} {W1 : World} (h : IsS99 w0 W g f0 f1) (hw : Below W.heap.size W W1) : IsS99 w0 W1 g f0 f1 := h.grown (grown_of_below hw none) (by simp)
theorem IsS99.alloc {w0 W : World} {g : Nat} {f0 : List Int} {f1 : Int} (h : IsS99 w0 W g f0 f1) (o : Obj) : IsS99 w0 (W.alloc o) g f0 f1 := h.below (below_alloc (Below.refl _ _) o)
theorem IsS99.drewN {w0 W : World} {g : Nat} {f0 : List Int} {f1 : Int} (h : IsS99 w0 W g f0 f1) (m : Nat) : IsS99 w0 (W.drewN m) g f0 f1 := h
theorem IsS99.drew {w0 W : World} {g : Nat} {f0 : List Int} {f1 : Int} (h : IsS99 w0 W g f0 f1) : IsS99 w0 W.drew g f0 f1 := h
theorem IsS99.at_ {w0 W : World} {g : Nat} {f0 : List Int} {f1 : Int} {w' : World} {m : Nat} (hq : W.drewN m = w') (h : IsS99 w0 W g f0 f1) : IsS99 w0 w' g f0 f1 := by subst hq; exact IsS99.drewN h m
theorem IsS99.apart {w0 W : World} {g : Nat} {f0 : List Int} {f1 : Int} {α : Type} {d : Kd α} {e : Nat} {base : Nat} {ok : Nat → Prop} {v : Value} {xs : List α} (h : IsS99 w0 W g f0 f1) (ho : d.R e W base ok v xs) (ht : ∀ q, q ∈ e :: d.E → q ≠ 99) : d.R e W base (fun k => ok k ∧ k ≠ g) v xs := by
 obtain ⟨A0, c0, hb, hg, hr0⟩ := h
 exact Kd.R_types ho hb ht
theorem IsS99.own_ne {w0 W : World} {g : Nat} {f0 : List Int} {f1 : Int} {α : Type} {d : Kd α} {e : Nat} {base : Nat} {ok : Nat → Prop} {v : Value} {xs : List α} (h : IsS99 w0 W g f0 f1) (ho : d.R e W base ok v xs) (ht : e ≠ 99) : some g ≠ v.ownBlock := by
 obtain ⟨A0, c0, hb, hg, hr0⟩ := h
 exact Kd.R_ne ho hb ht
theorem IsS99.apartQ {w0 W : World} {g : Nat} {f0 : List Int} {f1 : Int} {α : Type} {d : Kd α} {e : Nat} {base : Nat} {ok : Nat → Prop} {v : Value} {xs : List α} (h : IsS99 w0 W g f0 f1) (ho : d.Q e W base ok v xs) (ht : ∀ q, q ∈ e :: d.E → q ≠ 99) : d.Q e W base (fun k => ok k ∧ k ≠ g) v xs := by
 obtain ⟨A0, c0, hb, hg, hr0⟩ := h
 exact Kd.Q_types ho hb ht
theorem IsS99.own_neQ {w0 W : World} {g : Nat} {f0 : List Int} {f1 : Int} {α : Type} {d : Kd α} {e : Nat} {base : Nat} {ok : Nat → Prop} {v : Value} {xs : List α} (h : IsS99 w0 W g f0 f1) (ho : d.Q e W base ok v xs) (ht : e ≠ 99) : some g ≠ v.ownBlock := by
 obtain ⟨A0, c0, hb, hg, hr0⟩ := h
 exact Kd.Q_ne ho hb ht
theorem IsS99.apartS {w0 W : World} {g : Nat} {f0 : List Int} {f1 : Int} {α : Type} {d : Kd α} {e : Nat} {base : Nat} {ok : Nat → Prop} {v : Value} {xs : List α} (h : IsS99 w0 W g f0 f1) (ho : d.S e W base ok v xs) (ht : ∀ q, q ∈ e :: d.E → q ≠ 99) : d.S e W base (fun k => ok k ∧ k ≠ g) v xs := by
 obtain ⟨A0, c0, hb, hg, hr0⟩ := h
 exact Kd.S_types ho hb ht
theorem IsS99.own_neS {w0 W : World} {g : Nat} {f0 : List Int} {f1 : Int} {α : Type} {d : Kd α} {e : Nat} {base : Nat} {ok : Nat → Prop} {v : Value} {xs : List α} (h : IsS99 w0 W g f0 f1) (ho : d.S e W base ok v xs) (ht : e ≠ 99) : some g ≠ v.ownBlock := by
 obtain ⟨A0, c0, hb, hg, hr0⟩ := h
 exact Kd.S_ne ho hb ht
theorem IsS99.lt {w0 W : World} {g : Nat} {f0 : List Int} {f1 : Int} (h : IsS99 w0 W g f0 f1) : g < W.heap.size := by
 obtain ⟨A0, c0, hb, hg, hr0⟩ := h
 exact blk_lt hb
theorem IsS99.ge {w0 W : World} {g : Nat} {f0 : List Int} {f1 : Int} (h : IsS99 w0 W g f0 f1) : w0.heap.size ≤ g := by
 obtain ⟨A0, c0, hb, hg, hr0⟩ := h
 exact hg
theorem IsS99.ne_blk {w0 W : World} {g : Nat} {f0 : List Int} {f1 : Int} {a : Nat} {cs : Array Value} {t : TypeId} {fr : Nat × Nat} (h : IsS99 w0 W g f0 f1) (hb2 : W.heap[a]? = some (.cells cs t fr)) (ht : t ≠ 99) : g ≠ a := by
 obtain ⟨A0, c0, hb, hg, hr0⟩ := h
 rintro rfl
 rw [hb] at hb2
 injection hb2 with hb2
 injection hb2 with _ ht2
 exact ht ht2.symm
theorem IsS99.far {w0 W : World} {g : Nat} {f0 : List Int} {f1 : Int} {p : Addr} (h : IsS99 w0 W g f0 f1) (hne : g ≠ p.block) (u : Value) : IsS99 w0 (W.setCell p u) g f0 f1 := by
 obtain ⟨A0, c0, hb, hg, hr0⟩ := h
 exact ⟨A0, c0, blk_far hb hne u, hg, hr0⟩
theorem cellS99_0 {W : World} {g : Nat} {A0 : Option Addr} {c0 : Nat} {f0 : List Int} {f1 : Int} (h : W.heap[g]? = some (.cells #[.slice A0 f0.length c0, .int .i64 f1] 99 (0, 0))) : W.cell? ⟨g, 0, none⟩ = some (.slice A0 f0.length c0) := (blk_cell h 0).trans rfl
theorem cellS99_1 {W : World} {g : Nat} {A0 : Option Addr} {c0 : Nat} {f0 : List Int} {f1 : Int} (h : W.heap[g]? = some (.cells #[.slice A0 f0.length c0, .int .i64 f1] 99 (0, 0))) : W.cell? ⟨g, 1, none⟩ = some (.int .i64 f1) := (blk_cell h 1).trans rfl
theorem IsS99.set_1 {w0 W : World} {g : Nat} {f0 : List Int} {f1 : Int} (h : IsS99 w0 W g f0 f1) (x : Int) : IsS99 w0 (W.setCell ⟨g, 1, none⟩ (.int .i64 x)) g f0 x := by
 obtain ⟨A0, c0, hb, hg, hr0⟩ := h
 exact ⟨A0, c0, by simpa using blk_set hb 1 (.int .i64 x), hg, hr0⟩
theorem IsS99.new (w0 W : World) (A0 : Option Addr) (c0 : Nat) (f0 : List Int) (f1 : Int) (hB : Below w0.heap.size w0 W) (hr0 : Kd.C (Kd.int .u8) w0 A0 f0.length f0) : IsS99 w0 (W.alloc (.cells #[.slice A0 f0.length c0, .int .i64 f1] 99)) W.heap.size f0 f1 := ⟨A0, c0, by simpa using heap_alloc_new W _, hB.size, hr0⟩

theorem is99_0 {P Q : Prop} (h : P) (f : P → Q := by intro h_; repeat (first | (with_reducible first | exact h_ | apply IsS99.alloc | apply IsS99.drewN | apply IsS99.drew | apply IsS99.set_1) | exact h_)) : Q := f h
theorem is99_1 {P Q G0 : Prop} (h : P) (g0 : G0) (f : P → G0 → Q := by intro h_ g0_; repeat (first | (with_reducible first | exact h_ | apply IsS99.alloc | apply IsS99.drewN | apply IsS99.drew | apply IsS99.set_1 | refine IsS99.far ?_ g0_ _) | exact h_)) : Q := f h g0
theorem is99_2 {P Q G0 G1 : Prop} (h : P) (g0 : G0) (g1 : G1) (f : P → G0 → G1 → Q := by intro h_ g0_ g1_; repeat (first | (with_reducible first | exact h_ | apply IsS99.alloc | apply IsS99.drewN | apply IsS99.drew | apply IsS99.set_1 | refine IsS99.far ?_ g0_ _ | refine IsS99.far ?_ g1_ _) | exact h_)) : Q := f h g0 g1
theorem is99_3 {P Q G0 G1 G2 : Prop} (h : P) (g0 : G0) (g1 : G1) (g2 : G2) (f : P → G0 → G1 → G2 → Q := by intro h_ g0_ g1_ g2_; repeat (first | (with_reducible first | exact h_ | apply IsS99.alloc | apply IsS99.drewN | apply IsS99.drew | apply IsS99.set_1 | refine IsS99.far ?_ g0_ _ | refine IsS99.far ?_ g1_ _ | refine IsS99.far ?_ g2_ _) | exact h_)) : Q := f h g0 g1 g2
theorem is99_4 {P Q G0 G1 G2 G3 : Prop} (h : P) (g0 : G0) (g1 : G1) (g2 : G2) (g3 : G3) (f : P → G0 → G1 → G2 → G3 → Q := by intro h_ g0_ g1_ g2_ g3_; repeat (first | (with_reducible first | exact h_ | apply IsS99.alloc | apply IsS99.drewN | apply IsS99.drew | apply IsS99.set_1 | refine IsS99.far ?_ g0_ _ | refine IsS99.far ?_ g1_ _ | refine IsS99.far ?_ g2_ _ | refine IsS99.far ?_ g3_ _) | exact h_)) : Q := f h g0 g1 g2 g3
/-! ### codec_decoder_next: function 73 -/
def codec_decoder_next.f (s0_0 : List Int) (s0_1 : Int) : Option (Int × Int × Int) := if s0_1 ≥ 1048576 then (if (s0_0.length : Int) > 1048576 then (some (0, s0_1, 5)) else (if s0_1 ≥ (s0_0.length : Int) then (some (0, s0_1, 4)) else (if 0 ≤ (wrap64 ((wrap64 (s0_1 + 1)) - 1)) then (if (wrap64 ((wrap64 (s0_1 + 1)) - 1)) < (s0_0.length : Int) then (some (rd s0_0 (wrap64 ((wrap64 (s0_1 + 1)) - 1)), wrap64 (s0_1 + 1), 0)) else (none)) else (none)))) else (if s0_1 ≥ (s0_0.length : Int) then (some (0, s0_1, 4)) else (if 0 ≤ (wrap64 ((wrap64 (s0_1 + 1)) - 1)) then (if (wrap64 ((wrap64 (s0_1 + 1)) - 1)) < (s0_0.length : Int) then (some (rd s0_0 (wrap64 ((wrap64 (s0_1 + 1)) - 1)), wrap64 (s0_1 + 1), 0)) else (none)) else (none)))
set_option maxHeartbeats 8000000 in
set_option maxRecDepth 100000 in
theorem codec_decoder_next.calls (g : Nat) (s0_0 : List Int) (s0_1 : Int) (r1 : Int) (r2 : Int) (r3 : Int) (w0 w : World) (hI : IsS99 w0 w g s0_0 s0_1) (hB : Below w0.heap.size w0 w) (h : codec_decoder_next.f s0_0 s0_1 = some (r1, r2, r3)) :
  Calls Tryd.prog 73 #[.pointer (some ⟨g, 0, none⟩)] w fun e w' => e = endOf_ 95 r3 (.int .u8 r1) ∧ IsS99 w0 w' g s0_0 r2 ∧ Below w0.heap.size w0 w' ∧ KeepBut w w' g none := by
 have hu95 := Tryd.underlying95
 have HI0 := am hI
 have HK := am (KeepBut.refl w g none)
 have HL := am hB.size
 clear hI
 have HW0 := am hB.size
 have HB := am hB
 clear hB
 have H : (if s0_1 ≥ 1048576 then (if (s0_0.length : Int) > 1048576 then (some (0, s0_1, 5)) else (if s0_1 ≥ (s0_0.length : Int) then (some (0, s0_1, 4)) else (if 0 ≤ (wrap64 ((wrap64 (s0_1 + 1)) - 1)) then (if (wrap64 ((wrap64 (s0_1 + 1)) - 1)) < (s0_0.length : Int) then (some (rd s0_0 (wrap64 ((wrap64 (s0_1 + 1)) - 1)), wrap64 (s0_1 + 1), 0)) else (none)) else (none)))) else (if s0_1 ≥ (s0_0.length : Int) then (some (0, s0_1, 4)) else (if 0 ≤ (wrap64 ((wrap64 (s0_1 + 1)) - 1)) then (if (wrap64 ((wrap64 (s0_1 + 1)) - 1)) < (s0_0.length : Int) then (some (rd s0_0 (wrap64 ((wrap64 (s0_1 + 1)) - 1)), wrap64 (s0_1 + 1), 0)) else (none)) else (none)))) = some (r1, r2, r3) := h
 clear h
 by_cases c2 : s0_1 ≥ 1048576
 ·
  rw [if_pos c2] at H
  have c2b0 : decide (1048576 ≤ s0_1) = true := decide_eq_true c2
  clear c2
  by_cases c3 : (s0_0.length : Int) > 1048576
  ·
   rw [if_pos c3] at H
   have c3b0 : decide (1048576 < (s0_0.length : Int)) = true := decide_eq_true c3
   have c3b1 : decide (1048576 < s0_0.length) = true := decide_eq_true (by omega)
   clear c3
   simp only [Option.some.injEq, Prod.mk.injEq] at H
   obtain ⟨rfl, rfl, rfl⟩ := H
   obtain ⟨ASz4_0, cSz4_0, HGz4, hgz4, HSz4_0⟩ := HI0.out
   have hcz4_0 := cellS99_0 HGz4
   have hcz4_1 := cellS99_1 HGz4
   have hfz4_1 := blk_frozen HGz4 1
   clear HGz4 hgz4
   go_enter Tryd.func73, Tryd.ntmps73
   go_wp2
   repeat (go_quiet (fail); try go_wp2)
   refine ⟨rfl, ?_⟩
   exact ⟨by first | rfl | (refine pan_eq ?_; assumption) | (simp [errW_none, errW_some] <;> rfl) | (simp [*, errW_none, errW_some] <;> rfl), is99_0 HI0.out, hz1 HB.out (IsS99.ge HI0.out), kz HK.out⟩
  ·
   rw [if_neg c3] at H
   have c3b0 : decide (1048576 < (s0_0.length : Int)) = false := decide_eq_false c3
   have c3b1 : decide (1048576 < s0_0.length) = false := decide_eq_false (by omega)
   clear c3
   by_cases c5 : s0_1 ≥ (s0_0.length : Int)
   ·
    rw [if_pos c5] at H
    have c5b0 : decide ((s0_0.length : Int) ≤ s0_1) = true := decide_eq_true c5
    clear c5
    simp only [Option.some.injEq, Prod.mk.injEq] at H
    obtain ⟨rfl, rfl, rfl⟩ := H
    obtain ⟨ASz6_0, cSz6_0, HGz6, hgz6, HSz6_0⟩ := HI0.out
    have hcz6_0 := cellS99_0 HGz6
    have hcz6_1 := cellS99_1 HGz6
    have hfz6_1 := blk_frozen HGz6 1
    clear HGz6 hgz6
    go_enter Tryd.func73, Tryd.ntmps73
    go_wp2
    repeat (go_quiet (fail); try go_wp2)
    refine ⟨rfl, ?_⟩
    exact ⟨by first | rfl | (refine pan_eq ?_; assumption) | (simp [errW_none, errW_some] <;> rfl) | (simp [*, errW_none, errW_some] <;> rfl), is99_0 HI0.out, hz1 HB.out (IsS99.ge HI0.out), kz HK.out⟩
   ·
    rw [if_neg c5] at H
    have c5b0 : decide ((s0_0.length : Int) ≤ s0_1) = false := decide_eq_false c5
    clear c5
    obtain ⟨ji7, hji7⟩ : ∃ j_ : Int, (wrap64 ((wrap64 (s0_1 + 1)) - 1)) = j_ := ⟨_, rfl⟩
    replace H : (if 0 ≤ (ji7) then (if (ji7) < (s0_0.length : Int) then (some (rd s0_0 (ji7), wrap64 (s0_1 + 1), 0)) else (none)) else (none)) = some (r1, r2, r3) := by first | (rw [hji7] at H; exact H) | (simp only [hji7] at H ⊢; exact H)
    have hji7w : (IntKind.i64.wrap ((wrap64 (s0_1 + 1)) - 1)) = ji7 := (i64_w _).trans hji7
    replace H := it_ H
    obtain ⟨c8, H⟩ := H
    have c8b0 : decide (0 ≤ (ji7)) = true := decide_eq_true c8
    clear c8
    replace H := it_ H
    obtain ⟨c9, H⟩ := H
    have c9b0 : decide ((ji7) < (s0_0.length : Int)) = true := decide_eq_true c9
    clear c9
    simp only [Option.some.injEq, Prod.mk.injEq] at H
    obtain ⟨rfl, rfl, rfl⟩ := H
    obtain ⟨ASz10_0, cSz10_0, HGz10, hgz10, HSz10_0⟩ := HI0.out
    have hcz10_0 := cellS99_0 HGz10
    have hcz10_1 := cellS99_1 HGz10
    have hfz10_1 := blk_frozen HGz10 1
    clear HGz10 hgz10
    have p160 : 0 ≤ ((ji7) : Int) := of_decide_eq_true az
    have q160 : (ji7) < (s0_0.length : Int) := of_decide_eq_true az
    obtain ⟨ad160, e160, hx160_0⟩ := Kd.at_int HSz10_0 (ji7) p160 q160
    cases e160
    have hn160_0 : ad160.block ≠ g := Nat.ne_of_lt (Nat.lt_of_lt_of_le (by have := World.block_lt_of_cell? _ _ hx160_0; first | rwa [add_block] at this | exact this) (IsS99.ge HI0.out))
    replace hx160_0 := pw_cell_below HB.out hx160_0
    replace hx160_0 := (cell_far (p := ⟨g, 1, none⟩) (by first | (rw [add_block]; exact hn160_0) | (show (Addr.add _ _).block ≠ _; rw [add_block]; exact hn160_0) | exact hn160_0) (.int .i64 (wrap64 (s0_1 + 1)))).trans hx160_0
    (try have hy160_0 := fun (n_ : Nat) => (show (((w.drewN n_).setCell ⟨g, 1, none⟩ (.int .i64 (wrap64 (s0_1 + 1))))).cell? _ = some _ from hx160_0))
    clear hn160_0
    replace p160 := eq_true p160
    replace q160 := eq_true q160
    go_enter Tryd.func73, Tryd.ntmps73
    go_wp2
    repeat (go_quiet (fail); try go_wp2)
    go_ret
    exact ⟨by first | rfl | (refine pan_eq ?_; assumption) | (simp [errW_none, errW_some] <;> rfl) | (simp only [← hji7]; first | rfl | (simp [errW_none, errW_some] <;> rfl)) | (simp [*, errW_none, errW_some] <;> rfl), is99_0 HI0.out, hz1 HB.out (IsS99.ge HI0.out), kz HK.out⟩
 ·
  rw [if_neg c2] at H
  have c2b0 : decide (1048576 ≤ s0_1) = false := decide_eq_false c2
  clear c2
  by_cases c11 : s0_1 ≥ (s0_0.length : Int)
  ·
   rw [if_pos c11] at H
   have c11b0 : decide ((s0_0.length : Int) ≤ s0_1) = true := decide_eq_true c11
   clear c11
   simp only [Option.some.injEq, Prod.mk.injEq] at H
   obtain ⟨rfl, rfl, rfl⟩ := H
   obtain ⟨ASz12_0, cSz12_0, HGz12, hgz12, HSz12_0⟩ := HI0.out
   have hcz12_0 := cellS99_0 HGz12
   have hcz12_1 := cellS99_1 HGz12
   have hfz12_1 := blk_frozen HGz12 1
   clear HGz12 hgz12
   go_enter Tryd.func73, Tryd.ntmps73
   go_wp2
   repeat (go_quiet (fail); try go_wp2)
   refine ⟨rfl, ?_⟩
   exact ⟨by first | rfl | (refine pan_eq ?_; assumption) | (simp [errW_none, errW_some] <;> rfl) | (simp [*, errW_none, errW_some] <;> rfl), is99_0 HI0.out, hz1 HB.out (IsS99.ge HI0.out), kz HK.out⟩
  ·
   rw [if_neg c11] at H
   have c11b0 : decide ((s0_0.length : Int) ≤ s0_1) = false := decide_eq_false c11
   clear c11
   obtain ⟨ji13, hji13⟩ : ∃ j_ : Int, (wrap64 ((wrap64 (s0_1 + 1)) - 1)) = j_ := ⟨_, rfl⟩
   replace H : (if 0 ≤ (ji13) then (if (ji13) < (s0_0.length : Int) then (some (rd s0_0 (ji13), wrap64 (s0_1 + 1), 0)) else (none)) else (none)) = some (r1, r2, r3) := by first | (rw [hji13] at H; exact H) | (simp only [hji13] at H ⊢; exact H)
   have hji13w : (IntKind.i64.wrap ((wrap64 (s0_1 + 1)) - 1)) = ji13 := (i64_w _).trans hji13
   replace H := it_ H
   obtain ⟨c14, H⟩ := H
   have c14b0 : decide (0 ≤ (ji13)) = true := decide_eq_true c14
   clear c14
   replace H := it_ H
   obtain ⟨c15, H⟩ := H
   have c15b0 : decide ((ji13) < (s0_0.length : Int)) = true := decide_eq_true c15
   clear c15
   simp only [Option.some.injEq, Prod.mk.injEq] at H
   obtain ⟨rfl, rfl, rfl⟩ := H
   obtain ⟨ASz16_0, cSz16_0, HGz16, hgz16, HSz16_0⟩ := HI0.out
   have hcz16_0 := cellS99_0 HGz16
   have hcz16_1 := cellS99_1 HGz16
   have hfz16_1 := blk_frozen HGz16 1
   clear HGz16 hgz16
   have p161 : 0 ≤ ((ji13) : Int) := of_decide_eq_true az
   have q161 : (ji13) < (s0_0.length : Int) := of_decide_eq_true az
   obtain ⟨ad161, e161, hx161_0⟩ := Kd.at_int HSz16_0 (ji13) p161 q161
   cases e161
   have hn161_0 : ad161.block ≠ g := Nat.ne_of_lt (Nat.lt_of_lt_of_le (by have := World.block_lt_of_cell? _ _ hx161_0; first | rwa [add_block] at this | exact this) (IsS99.ge HI0.out))
   replace hx161_0 := pw_cell_below HB.out hx161_0
   replace hx161_0 := (cell_far (p := ⟨g, 1, none⟩) (by first | (rw [add_block]; exact hn161_0) | (show (Addr.add _ _).block ≠ _; rw [add_block]; exact hn161_0) | exact hn161_0) (.int .i64 (wrap64 (s0_1 + 1)))).trans hx161_0
   (try have hy161_0 := fun (n_ : Nat) => (show (((w.drewN n_).setCell ⟨g, 1, none⟩ (.int .i64 (wrap64 (s0_1 + 1))))).cell? _ = some _ from hx161_0))
   clear hn161_0
   replace p161 := eq_true p161
   replace q161 := eq_true q161
   go_enter Tryd.func73, Tryd.ntmps73
   go_wp2
   repeat (go_quiet (fail); try go_wp2)
   go_ret
   exact ⟨by first | rfl | (refine pan_eq ?_; assumption) | (simp [errW_none, errW_some] <;> rfl) | (simp only [← hji13]; first | rfl | (simp [errW_none, errW_some] <;> rfl)) | (simp [*, errW_none, errW_some] <;> rfl), is99_0 HI0.out, hz1 HB.out (IsS99.ge HI0.out), kz HK.out⟩

/-! ### codec_decoder_varint: function 74 -/
mutual
def codec_decoder_varint.l0 : Nat → Int → Int → List Int → Int → Option (Int × Int × Int)
 | 0, _, _, _, _ => none
 | k + 1, x3, x6, x1000, x1001 => if x6 < 10 then ((codec_decoder_next.f x1000 x1001).bind fun bt162 => (if bt162.2.2 = 0 then (if x6 = 9 then (if bt162.1 > 1 then (codec_decoder_varint.j1 k x3 x6 bt162.1 x6 true x1000 bt162.2.1) else (if bt162.1 = 0 then (codec_decoder_varint.j1 k x3 x6 bt162.1 x6 (decide (x6 > 0)) x1000 bt162.2.1) else (codec_decoder_varint.j1 k x3 x6 bt162.1 x6 false x1000 bt162.2.1))) else (if bt162.1 = 0 then (codec_decoder_varint.j1 k x3 x6 bt162.1 x6 (decide (x6 > 0)) x1000 bt162.2.1) else (codec_decoder_varint.j1 k x3 x6 bt162.1 x6 false x1000 bt162.2.1))) else (some (0, bt162.2.1, bt162.2.2)))) else (some (x3, x1001, 0))
def codec_decoder_varint.j1 : Nat → Int → Int → Int → Int → Bool → List Int → Int → Option (Int × Int × Int)
 | 0, _, _, _, _, _, _, _ => none
 | k + 1, x3, x4, x5, x6, x24, x1000, x1001 => if x24 = true then (some (0, x1001, 2)) else (if 0 ≤ (wrap64 (7 * x4)) then (if x5 < 128 then (some (Go.bits .or .u64 x3 (shl .u64 (IntKind.u64.wrap (Go.bits .and .u8 x5 127)) (wrap64 (7 * x4))), x1001, 0)) else (codec_decoder_varint.l0 k (Go.bits .or .u64 x3 (shl .u64 (IntKind.u64.wrap (Go.bits .and .u8 x5 127)) (wrap64 (7 * x4)))) (wrap64 (x6 + 1)) x1000 x1001)) else (none))
end
def codec_decoder_varint.f (k : Nat) (s0_0 : List Int) (s0_1 : Int) : Option (Int × Int × Int) := codec_decoder_varint.l0 k 0 0 s0_0 s0_1
theorem codec_decoder_varint.mono_l : ∀ k, (∀ y0 y1 y2 y3, LeO (codec_decoder_varint.l0 k y0 y1 y2 y3) (codec_decoder_varint.l0 (k + 1) y0 y1 y2 y3)) ∧ (∀ y0 y1 y2 y3 y4 y5 y6, LeO (codec_decoder_varint.j1 k y0 y1 y2 y3 y4 y5 y6) (codec_decoder_varint.j1 (k + 1) y0 y1 y2 y3 y4 y5 y6))
 | 0 => ⟨fun _ _ _ _ r h => by simp [codec_decoder_varint.l0] at h, fun _ _ _ _ _ _ _ r h => by simp [codec_decoder_varint.j1] at h⟩
 | k + 1 => by
  obtain ⟨ih0, ih1⟩ := codec_decoder_varint.mono_l k
  refine ⟨?_, ?_⟩
  ·
   intro y0 y1 y2 y3
   unfold codec_decoder_varint.l0
   repeat' first
   | (with_reducible exact ih0 _ _ _ _)
   | (with_reducible exact ih1 _ _ _ _ _ _ _)
   | (with_reducible exact LeO.refl _)
   | (with_reducible exact LeO.none _)
   | (with_reducible refine LeO.ite ?_ ?_)
   | (with_reducible refine LeO.bind ?_ (fun _ => ?_))
   | exact ih0 _ _ _ _
   | exact ih1 _ _ _ _ _ _ _
   | exact LeO.none _
   | refine LeO.ite ?_ ?_
   | refine LeO.bind ?_ (fun _ => ?_)
  ·
   intro y0 y1 y2 y3 y4 y5 y6
   unfold codec_decoder_varint.j1
   repeat' first
   | (with_reducible exact ih0 _ _ _ _)
   | (with_reducible exact ih1 _ _ _ _ _ _ _)
   | (with_reducible exact LeO.refl _)
   | (with_reducible exact LeO.none _)
   | (with_reducible refine LeO.ite ?_ ?_)
   | (with_reducible refine LeO.bind ?_ (fun _ => ?_))
   | exact ih0 _ _ _ _
   | exact ih1 _ _ _ _ _ _ _
   | exact LeO.none _
   | refine LeO.ite ?_ ?_
   | refine LeO.bind ?_ (fun _ => ?_)
theorem codec_decoder_varint.mono : ∀ a0 a1 k, LeO (codec_decoder_varint.f k a0 a1) (codec_decoder_varint.f (k + 1) a0 a1) := by
 intro a0 a1 k
 obtain ⟨ih0, ih1⟩ := codec_decoder_varint.mono_l k
 unfold codec_decoder_varint.f
 repeat' first
   | (with_reducible exact ih0 _ _ _ _)
   | (with_reducible exact ih1 _ _ _ _ _ _ _)
   | (with_reducible exact LeO.refl _)
   | (with_reducible exact LeO.none _)
   | (with_reducible refine LeO.ite ?_ ?_)
   | (with_reducible refine LeO.bind ?_ (fun _ => ?_))
   | exact ih0 _ _ _ _
   | exact ih1 _ _ _ _ _ _ _
   | exact LeO.none _
   | refine LeO.ite ?_ ?_
   | refine LeO.bind ?_ (fun _ => ?_)
set_option maxHeartbeats 8000000 in
set_option maxRecDepth 100000 in
theorem codec_decoder_varint.calls (k : Nat) (g : Nat) (s0_0 : List Int) (s0_1 : Int) (r1 : Int) (r2 : Int) (r3 : Int) (w0 w : World) (hI : IsS99 w0 w g s0_0 s0_1) (hB : Below w0.heap.size w0 w) (h : codec_decoder_varint.f k s0_0 s0_1 = some (r1, r2, r3)) :
  Calls Tryd.prog 74 #[.pointer (some ⟨g, 0, none⟩)] w fun e w' => e = endOf_ 95 r3 (.int .u64 r1) ∧ IsS99 w0 w' g s0_0 r2 ∧ Below w0.heap.size w0 w' ∧ KeepBut w w' g none := by
 have hu95 := Tryd.underlying95
 have HI0 := am hI
 have HK := am (KeepBut.refl w g none)
 have HL := am hB.size
 clear hI
 have HW0 := am hB.size
 have HB := am hB
 clear hB
 have H : (codec_decoder_varint.l0 k 0 0 s0_0 s0_1) = some (r1, r2, r3) := h
 clear h
 have H' := am H
 clear H
 go_enter Tryd.func74, Tryd.ntmps74
 go_wp2
 go_loopg [3, 6] k (fun kq v3 v6 w' => ∃ (x3_1 : Int) (x6_1 : Int) (x1001_1 : Int), v3 = .int .u64 x3_1 ∧ v6 = .int .i64 x6_1 ∧ Aside0 (codec_decoder_varint.l0 kq x3_1 x6_1 s0_0 x1001_1 = some (r1, r2, r3)) ∧ Aside0 (kq ≤ k) ∧ Aside0 (IsS99 w0 w' g s0_0 x1001_1) ∧ Aside0 (KeepBut w w' g none) ∧ Aside0 (Below w0.heap.size w0 w'))
 case atStart => exact ⟨(0), (0), (s0_1), rfz, rfz, H', ⟨Nat.le_refl _⟩, ⟨is99_0 HI0.out⟩, ⟨kz HK.out⟩, ⟨hz1 HB.out (IsS99.ge HI0.out)⟩⟩
 case round =>
  clear H'
  obtain ⟨x3_1, x6_1, x1001_1, rfl, rfl, HA, HK1, HI0, HK, HB⟩ := hrel
  cases gk with
  | zero => exact absurd HA.out (by simp [codec_decoder_varint.l0])
  | succ k1 =>
   have H := HA.out
   clear HA
   simp only [codec_decoder_varint.l0] at H
   by_cases c2 : x6_1 < 10
   ·
    rw [if_pos c2] at H
    have c2b0 : decide (x6_1 < 10) = true := decide_eq_true c2
    clear c2
    replace H := Option.bind_eq_some_iff.mp H
    obtain ⟨⟨t162, t163, t164⟩, A30, H⟩ := H
    try dsimp only at H
    have A3 := am A30
    clear A30
    by_cases c4 : t164 = 0
    ·
     rw [if_pos c4] at H
     have c4b0 : (t164 == 0) = true := beq_iff_eq.mpr c4
     have c4b1 : (t164 != 0) = false := bne_eq_false_iff_eq.mpr c4
     clear c4
     have HC5 := am H
     clear H
     go_upto_region 6 with (first | ((with_reducible refine gate_callee (f := 73) rfl ?_); refine goesLP_ (some 10) rfl rfl Tryd.func73 (by kernel_rfl) rfl #[.pointer (some ⟨g, 0, none⟩)] rfl lz ?_; (with_reducible refine (codec_decoder_next.calls g s0_0 x1001_1 t162 t163 t164 w0 _ ?side1 ?side2 A3.out).mono ?_); (case side1 => exact is99_0 HI0.out); (case side2 => exact hz1 HB.out (IsS99.ge HI0.out)); rintro e w6 ⟨he_, hi, hb, hk⟩; (first | (refine zero_ he_ ?hz_ ?_; (case hz_ => (with_reducible assumption))) | (refine pan_ he_ ?hz_ ?_; (case hz_ => (with_reducible assumption)))); replace HK := am (KeepBut.trans (kz HK.out) hk (.inl rfl)); replace HB := am (hb); replace HI0 := am (hi)))
     (try simp only [Act.put, List.setIfInBounds_toArray, List.set_cons_zero, List.set_cons_succ])
     go_cut [24] (fun v24 wc => ∃ (kq : Nat) (x24_4 : Bool), v24 = .bool x24_4 ∧ Aside0 (codec_decoder_varint.j1 kq x3_1 x6_1 t162 x6_1 x24_4 s0_0 t163 = some (r1, r2, r3)) ∧ Aside0 (kq ≤ k1) ∧ Aside0 (IsS99 w0 wc g s0_0 t163) ∧ Aside0 (KeepBut w wc g none) ∧ Aside0 (Below w0.heap.size w0 wc))
     case first =>
      have H := HC5.out
      clear HC5
      by_cases c7 : x6_1 = 9
      ·
       rw [if_pos c7] at H
       have c7b0 : (x6_1 == 9) = true := beq_iff_eq.mpr c7
       have c7b1 : (x6_1 != 9) = false := bne_eq_false_iff_eq.mpr c7
       clear c7
       (first | rw [c7b0] | (simp only [i64_w, i32_w]; rw [c7b0]) | skip)
       by_cases c8 : t162 > 1
       ·
        rw [if_pos c8] at H
        have c8b0 : decide (1 < t162) = true := decide_eq_true c8
        clear c8
        have H' := am H
        clear H
        go_wp2
        go_meet
        case rel => exact ⟨_, (true), rfz, H', ⟨by have := HK1.out; first | omega | exact Nat.le_refl _⟩, ⟨is99_0 HI0.out⟩, ⟨kz HK.out⟩, ⟨hz1 HB.out (IsS99.ge HI0.out)⟩⟩
       ·
        rw [if_neg c8] at H
        have c8b0 : decide (1 < t162) = false := decide_eq_false c8
        clear c8
        by_cases c9 : t162 = 0
        ·
         rw [if_pos c9] at H
         have c9b0 : (t162 == 0) = true := beq_iff_eq.mpr c9
         have c9b1 : (t162 != 0) = false := bne_eq_false_iff_eq.mpr c9
         clear c9
         have H' := am H
         clear H
         go_wp2
         go_meet
         case rel => exact ⟨_, (decide (x6_1 > 0)), rfz, H', ⟨by have := HK1.out; first | omega | exact Nat.le_refl _⟩, ⟨is99_0 HI0.out⟩, ⟨kz HK.out⟩, ⟨hz1 HB.out (IsS99.ge HI0.out)⟩⟩
        ·
         rw [if_neg c9] at H
         have c9b0 : (t162 == 0) = false := beq_eq_false_iff_ne.mpr c9
         have c9b1 : (t162 != 0) = true := bne_iff_ne.mpr c9
         have H' := am H
         clear H
         go_wp2
         go_meet
         case rel => exact ⟨_, (false), rfz, H', ⟨by have := HK1.out; first | omega | exact Nat.le_refl _⟩, ⟨is99_0 HI0.out⟩, ⟨kz HK.out⟩, ⟨hz1 HB.out (IsS99.ge HI0.out)⟩⟩
      ·
       rw [if_neg c7] at H
       have c7b0 : (x6_1 == 9) = false := beq_eq_false_iff_ne.mpr c7
       have c7b1 : (x6_1 != 9) = true := bne_iff_ne.mpr c7
       (first | rw [c7b0] | (simp only [i64_w, i32_w]; rw [c7b0]) | skip)
       by_cases c10 : t162 = 0
       ·
        rw [if_pos c10] at H
        have c10b0 : (t162 == 0) = true := beq_iff_eq.mpr c10
        have c10b1 : (t162 != 0) = false := bne_eq_false_iff_eq.mpr c10
        clear c10
        have H' := am H
        clear H
        go_wp2
        go_meet
        case rel => exact ⟨_, (decide (x6_1 > 0)), rfz, H', ⟨by have := HK1.out; first | omega | exact Nat.le_refl _⟩, ⟨is99_0 HI0.out⟩, ⟨kz HK.out⟩, ⟨hz1 HB.out (IsS99.ge HI0.out)⟩⟩
       ·
        rw [if_neg c10] at H
        have c10b0 : (t162 == 0) = false := beq_eq_false_iff_ne.mpr c10
        have c10b1 : (t162 != 0) = true := bne_iff_ne.mpr c10
        have H' := am H
        clear H
        go_wp2
        go_meet
        case rel => exact ⟨_, (false), rfz, H', ⟨by have := HK1.out; first | omega | exact Nat.le_refl _⟩, ⟨is99_0 HI0.out⟩, ⟨kz HK.out⟩, ⟨hz1 HB.out (IsS99.ge HI0.out)⟩⟩
     case rest =>
      clear HC5
      obtain ⟨kq, x24_4, rfl, HA, HJ4, HI0, HK, HB⟩ := hcut
      cases kq with
      | zero => exact absurd HA.out (by simp [codec_decoder_varint.j1])
      | succ kj4 =>
       have H := HA.out
       clear HA
       simp only [codec_decoder_varint.j1] at H
       by_cases c11 : x24_4 = true
       ·
        subst c11
        have H1 := H
        rw [if_pos rfl] at H1
        clear H
        have H := H1
        clear H1
        simp only [Option.some.injEq, Prod.mk.injEq] at H
        obtain ⟨rfl, rfl, rfl⟩ := H
        go_wp2
        refine ⟨rfl, ?_⟩
        exact ⟨by first | rfl | (refine pan_eq ?_; assumption) | (simp [errW_none, errW_some] <;> rfl) | (simp [*, errW_none, errW_some] <;> rfl), is99_0 HI0.out, hz1 HB.out (IsS99.ge HI0.out), kz HK.out⟩
       ·
        replace c11 := Bool.eq_false_iff.mpr c11
        subst c11
        have H1 := H
        rw [if_neg (show ¬ (false = true) by decide)] at H1
        clear H
        have H := H1
        clear H1
        obtain ⟨ji12, hji12⟩ : ∃ j_ : Int, (wrap64 (7 * x6_1)) = j_ := ⟨_, rfl⟩
        replace H : (if 0 ≤ (ji12) then (if t162 < 128 then (some (Go.bits .or .u64 x3_1 (shl .u64 (IntKind.u64.wrap (Go.bits .and .u8 t162 127)) (ji12)), t163, 0)) else (codec_decoder_varint.l0 kj4 (Go.bits .or .u64 x3_1 (shl .u64 (IntKind.u64.wrap (Go.bits .and .u8 t162 127)) (ji12))) (wrap64 (x6_1 + 1)) s0_0 t163)) else (none)) = some (r1, r2, r3) := by first | (rw [hji12] at H; exact H) | (simp only [hji12] at H ⊢; exact H)
        have hji12w : (IntKind.i64.wrap (7 * x6_1)) = ji12 := (i64_w _).trans hji12
        replace H := it_ H
        obtain ⟨c13, H⟩ := H
        have c13b0 := eq_true c13
        have c13b1 : decide (0 ≤ (ji12)) = true := decide_eq_true c13
        clear c13
        obtain ⟨ji14, hji14⟩ : ∃ j_ : Int, (shl .u64 (IntKind.u64.wrap (Go.bits .and .u8 t162 127)) (ji12)) = j_ := ⟨_, rfl⟩
        replace H : (if t162 < 128 then (some (Go.bits .or .u64 x3_1 (ji14), t163, 0)) else (codec_decoder_varint.l0 kj4 (Go.bits .or .u64 x3_1 (ji14)) (wrap64 (x6_1 + 1)) s0_0 t163)) = some (r1, r2, r3) := by first | (rw [hji14] at H; exact H) | (simp only [hji14] at H ⊢; exact H)
        have hji14_ : (IntKind.u64.wrap ((IntKind.u64.wrap (Go.bits .and .u8 t162 127)) * 2 ^ min (ji12).toNat 64)) = ji14 := hji14
        have hji14z : (ji12) ≤ 64 → (IntKind.u64.wrap ((IntKind.u64.wrap (Go.bits .and .u8 t162 127)) * 2 ^ (ji12).toNat)) = ji14 := shl_small hji14
        by_cases c15 : t162 < 128
        ·
         rw [if_pos c15] at H
         have c15b0 : decide (t162 < 128) = true := decide_eq_true c15
         clear c15
         simp only [Option.some.injEq, Prod.mk.injEq] at H
         obtain ⟨rfl, rfl, rfl⟩ := H
         go_wp2
         go_ret
         exact ⟨by first | rfl | (refine pan_eq ?_; assumption) | (simp [errW_none, errW_some] <;> rfl) | (simp only [← hji12, ← hji14]; first | rfl | (simp [errW_none, errW_some] <;> rfl)) | (simp [*, errW_none, errW_some] <;> rfl), is99_0 HI0.out, hz1 HB.out (IsS99.ge HI0.out), kz HK.out⟩
        ·
         rw [if_neg c15] at H
         have c15b0 : decide (t162 < 128) = false := decide_eq_false c15
         clear c15
         have H' := am H
         clear H
         go_wp2
         go_roundg kj4
         case measure => have := HK1.out; have := HJ4.out; omega
         case rel => exact ⟨(Go.bits .or .u64 x3_1 (ji14)), (wrap64 (x6_1 + 1)), (t163), (by first | rfl | (simp; done) | (simp only [← hji14] <;> (first | rfl | simp)) | (simp [*]; done)), rfz, H', ⟨by have := HK1.out; have := HJ4.out; omega⟩, ⟨is99_0 HI0.out⟩, ⟨kz HK.out⟩, ⟨hz1 HB.out (IsS99.ge HI0.out)⟩⟩
    ·
     rw [if_neg c4] at H
     have c4b0 : (t164 == 0) = false := beq_eq_false_iff_ne.mpr c4
     have c4b1 : (t164 != 0) = true := bne_iff_ne.mpr c4
     simp only [Option.some.injEq, Prod.mk.injEq] at H
     obtain ⟨rfl, rfl, rfl⟩ := H
     go_wp2_with (first | ((with_reducible refine gate_callee (f := 73) rfl ?_); refine goesLP_ (some 10) rfl rfl Tryd.func73 (by kernel_rfl) rfl #[.pointer (some ⟨g, 0, none⟩)] rfl lz ?_; (with_reducible refine (codec_decoder_next.calls g s0_0 x1001_1 t162 t163 t164 w0 _ ?side1 ?side2 A3.out).mono ?_); (case side1 => exact is99_0 HI0.out); (case side2 => exact hz1 HB.out (IsS99.ge HI0.out)); rintro e w16 ⟨he_, hi, hb, hk⟩; (first | (refine zero_ he_ ?hz_ ?_; (case hz_ => (with_reducible assumption))) | (refine pan_ he_ ?hz_ ?_; (case hz_ => (with_reducible assumption)))); replace HK := am (KeepBut.trans (kz HK.out) hk (.inl rfl)); replace HB := am (hb); replace HI0 := am (hi)))
     refine ⟨rfl, ?_⟩
     exact ⟨by first | rfl | (refine pan_eq ?_; assumption) | (simp [errW_none, errW_some] <;> rfl) | (simp [*, errW_none, errW_some] <;> rfl), is99_0 HI0.out, hz1 HB.out (IsS99.ge HI0.out), kz HK.out⟩
   ·
    rw [if_neg c2] at H
    have c2b0 : decide (x6_1 < 10) = false := decide_eq_false c2
    clear c2
    simp only [Option.some.injEq, Prod.mk.injEq] at H
    obtain ⟨rfl, rfl, rfl⟩ := H
    go_wp2
    go_ret
    exact ⟨by first | rfl | (refine pan_eq ?_; assumption) | (simp [errW_none, errW_some] <;> rfl) | (simp [*, errW_none, errW_some] <;> rfl), is99_0 HI0.out, hz1 HB.out (IsS99.ge HI0.out), kz HK.out⟩

/-! ### codec_decoder_limited: function 72 -/
def codec_decoder_limited.f (k : Nat) (s0_0 : List Int) (s0_1 : Int) (a1 : Int) (a2 : Int) : Option (Int × Int × Int) := (codec_decoder_varint.f k s0_0 s0_1).bind fun bt165 => (if bt165.2.2 = 0 then (if bt165.1 > a1 then (if a2 = 0 then (none) else (some (0, bt165.2.1, a2))) else (some (wrap64 (bt165.1), bt165.2.1, 0))) else (some (0, bt165.2.1, bt165.2.2)))
theorem codec_decoder_limited.mono : ∀ a0 a1 a2 a3 k, LeO (codec_decoder_limited.f k a0 a1 a2 a3) (codec_decoder_limited.f (k + 1) a0 a1 a2 a3) := by
 intro a0 a1 a2 a3 k
 unfold codec_decoder_limited.f
 repeat' first
   | (with_reducible exact codec_decoder_varint.mono _ _ _)
   | (with_reducible exact LeO.refl _)
   | (with_reducible exact LeO.none _)
   | (with_reducible refine LeO.ite ?_ ?_)
   | (with_reducible refine LeO.bind ?_ (fun _ => ?_))
   | exact codec_decoder_varint.mono _ _ _
   | exact LeO.none _
   | refine LeO.ite ?_ ?_
   | refine LeO.bind ?_ (fun _ => ?_)
set_option maxHeartbeats 8000000 in
set_option maxRecDepth 100000 in
theorem codec_decoder_limited.calls (k : Nat) (g : Nat) (s0_0 : List Int) (s0_1 : Int) (a1 : Int) (a2 : Int) (r1 : Int) (r2 : Int) (r3 : Int) (w0 w : World) (hI : IsS99 w0 w g s0_0 s0_1) (hB : Below w0.heap.size w0 w) (h : codec_decoder_limited.f k s0_0 s0_1 a1 a2 = some (r1, r2, r3)) :
  Calls Tryd.prog 72 #[.pointer (some ⟨g, 0, none⟩), .int .u64 a1, .int .i64 a2] w fun e w' => e = endOf_ 95 r3 (.int .i64 r1) ∧ IsS99 w0 w' g s0_0 r2 ∧ Below w0.heap.size w0 w' ∧ KeepBut w w' g none := by
 have hu95 := Tryd.underlying95
 have HI0 := am hI
 have HK := am (KeepBut.refl w g none)
 have HL := am hB.size
 clear hI
 have HW0 := am hB.size
 have HB := am hB
 clear hB
 have H : ((codec_decoder_varint.f k s0_0 s0_1).bind fun bt165 => (if bt165.2.2 = 0 then (if bt165.1 > a1 then (if a2 = 0 then (none) else (some (0, bt165.2.1, a2))) else (some (wrap64 (bt165.1), bt165.2.1, 0))) else (some (0, bt165.2.1, bt165.2.2)))) = some (r1, r2, r3) := h
 clear h
 replace H := Option.bind_eq_some_iff.mp H
 obtain ⟨⟨t165, t166, t167⟩, A40, H⟩ := H
 try dsimp only at H
 have A4 := am A40
 clear A40
 by_cases c5 : t167 = 0
 ·
  rw [if_pos c5] at H
  have c5b0 : (t167 == 0) = true := beq_iff_eq.mpr c5
  have c5b1 : (t167 != 0) = false := bne_eq_false_iff_eq.mpr c5
  clear c5
  by_cases c6 : t165 > a1
  ·
   rw [if_pos c6] at H
   have c6b0 : decide (a1 < t165) = true := decide_eq_true c6
   clear c6
   replace H := ie_ H
   obtain ⟨c7, H⟩ := H
   have c7b0 : (a2 == 0) = false := beq_eq_false_iff_ne.mpr c7
   have c7b1 : (a2 != 0) = true := bne_iff_ne.mpr c7
   simp only [Option.some.injEq, Prod.mk.injEq] at H
   obtain ⟨rfl, rfl, rfl⟩ := H
   go_enter Tryd.func72, Tryd.ntmps72
   go_wp2_with (first | ((with_reducible refine gate_callee (f := 74) rfl ?_); refine goesLP_ (some 9) rfl rfl Tryd.func74 (by kernel_rfl) rfl #[.pointer (some ⟨g, 0, none⟩)] rfl lz ?_; (with_reducible refine (codec_decoder_varint.calls k g s0_0 s0_1 t165 t166 t167 w0 _ ?side1 ?side2 A4.out).mono ?_); (case side1 => exact is99_0 HI0.out); (case side2 => exact hz1 HB.out (IsS99.ge HI0.out)); rintro e w8 ⟨he_, hi, hb, hk⟩; (first | (refine zero_ he_ ?hz_ ?_; (case hz_ => (with_reducible assumption))) | (refine pan_ he_ ?hz_ ?_; (case hz_ => (with_reducible assumption)))); replace HK := am (KeepBut.trans (kz HK.out) hk (.inl rfl)); replace HB := am (hb); replace HI0 := am (hi)))
   refine ⟨rfl, ?_⟩
   exact ⟨by first | rfl | (refine pan_eq ?_; assumption) | (simp [errW_none, errW_some] <;> rfl) | (simp [*, errW_none, errW_some] <;> rfl), is99_0 HI0.out, hz1 HB.out (IsS99.ge HI0.out), kz HK.out⟩
  ·
   rw [if_neg c6] at H
   have c6b0 : decide (a1 < t165) = false := decide_eq_false c6
   clear c6
   simp only [Option.some.injEq, Prod.mk.injEq] at H
   obtain ⟨rfl, rfl, rfl⟩ := H
   go_enter Tryd.func72, Tryd.ntmps72
   go_wp2_with (first | ((with_reducible refine gate_callee (f := 74) rfl ?_); refine goesLP_ (some 9) rfl rfl Tryd.func74 (by kernel_rfl) rfl #[.pointer (some ⟨g, 0, none⟩)] rfl lz ?_; (with_reducible refine (codec_decoder_varint.calls k g s0_0 s0_1 t165 t166 t167 w0 _ ?side1 ?side2 A4.out).mono ?_); (case side1 => exact is99_0 HI0.out); (case side2 => exact hz1 HB.out (IsS99.ge HI0.out)); rintro e w9 ⟨he_, hi, hb, hk⟩; (first | (refine zero_ he_ ?hz_ ?_; (case hz_ => (with_reducible assumption))) | (refine pan_ he_ ?hz_ ?_; (case hz_ => (with_reducible assumption)))); replace HK := am (KeepBut.trans (kz HK.out) hk (.inl rfl)); replace HB := am (hb); replace HI0 := am (hi)))
   go_ret
   exact ⟨by first | rfl | (refine pan_eq ?_; assumption) | (simp [errW_none, errW_some] <;> rfl) | (simp [*, errW_none, errW_some] <;> rfl), is99_0 HI0.out, hz1 HB.out (IsS99.ge HI0.out), kz HK.out⟩
 ·
  rw [if_neg c5] at H
  have c5b0 : (t167 == 0) = false := beq_eq_false_iff_ne.mpr c5
  have c5b1 : (t167 != 0) = true := bne_iff_ne.mpr c5
  simp only [Option.some.injEq, Prod.mk.injEq] at H
  obtain ⟨rfl, rfl, rfl⟩ := H
  go_enter Tryd.func72, Tryd.ntmps72
  go_wp2_with (first | ((with_reducible refine gate_callee (f := 74) rfl ?_); refine goesLP_ (some 9) rfl rfl Tryd.func74 (by kernel_rfl) rfl #[.pointer (some ⟨g, 0, none⟩)] rfl lz ?_; (with_reducible refine (codec_decoder_varint.calls k g s0_0 s0_1 t165 t166 t167 w0 _ ?side1 ?side2 A4.out).mono ?_); (case side1 => exact is99_0 HI0.out); (case side2 => exact hz1 HB.out (IsS99.ge HI0.out)); rintro e w10 ⟨he_, hi, hb, hk⟩; (first | (refine zero_ he_ ?hz_ ?_; (case hz_ => (with_reducible assumption))) | (refine pan_ he_ ?hz_ ?_; (case hz_ => (with_reducible assumption)))); replace HK := am (KeepBut.trans (kz HK.out) hk (.inl rfl)); replace HB := am (hb); replace HI0 := am (hi)))
  refine ⟨rfl, ?_⟩
  exact ⟨by first | rfl | (refine pan_eq ?_; assumption) | (simp [errW_none, errW_some] <;> rfl) | (simp [*, errW_none, errW_some] <;> rfl), is99_0 HI0.out, hz1 HB.out (IsS99.ge HI0.out), kz HK.out⟩

end Go.Proofs.YteeggfnailpcpaaDoor.Q
