/- Made by wip/myprint.py of this session (it drives the kit's printer): what the calls of the Go functions come to, as plain Lean functions, and the row of a law over them; without conditions. -/
import Derived.Test.YteeggfnailpcpaaDoorQx0
import Derived.Test.YteeggfnailpcpaaDoorQx4
import Derived.Test.YteeggfnailpcpaaDoorQx7
namespace Go.Proofs.YteeggfnailpcpaaDoor.Q
open Go.RowKit Go.Proofs.YteeggfnailpcpaaDoorW.PrintWords Go.Proofs.YteeggfnailpcpaaDoorW.PrintLast Go.Proofs.YteeggfnailpcpaaDoorW.PrintMore
attribute [local go_sem] max2_int min2_int max_two min_two max_three min_three max_four min_four   -- for this text's walks alone
set_option linter.unusedVariables false
set_option linter.unusedSimpArgs false

/-! ### journal_read: function 31 -/
def journal_read.l0 : Nat → List Int → List (S43) → Int → Int → Option ((List (S43)) × Int × Int × Option Int)
 | 0, _, _, _, _ => none
 | k + 1, x0, x6, x7, x8 => if x7 < (x0.length : Int) then (if (x6.length : Int) = 300 then (some (x6, x7, x8, some 5)) else (if 0 ≤ x7 then (if x7 ≤ (x0.length : Int) then ((journal_entry.f k (x0.drop (x7 : Int).toNat) x8).bind fun bt233 => (if bt233.2.2.2.2.2.2.2.isNone = true then (if x6.length < 2199023255552 then (journal_read.l0 k x0 (x6 ++ [(⟨bt233.1, bt233.2.1, bt233.2.2.1, bt233.2.2.2.1, bt233.2.2.2.2.1⟩ : S43)]) (wrap64 (x7 + bt233.2.2.2.2.2.1)) bt233.2.2.2.2.2.2.1) else (none)) else (some (x6, x7, x8, some (bt233.2.2.2.2.2.2.2.getD 0))))) else (none)) else (none))) else (some (x6, x7, x8, none))
def journal_read.f (k : Nat) (l0 : List Int) : Option ((List (S43)) × Int × Int × Option Int) := (digest_Of.f k ([] : List Int)).bind fun t230 => (journal_read.l0 k l0 ([] : List (S43)) 0 t230)
theorem journal_read.mono_l : ∀ k, (∀ y0 y1 y2 y3, LeO (journal_read.l0 k y0 y1 y2 y3) (journal_read.l0 (k + 1) y0 y1 y2 y3))
 | 0 => fun _ _ _ _ r h => by simp [journal_read.l0] at h
 | k + 1 => by
  have ih0 := journal_read.mono_l k
  ·
   intro y0 y1 y2 y3
   unfold journal_read.l0
   repeat' first
   | (with_reducible exact ih0 _ _ _ _)
   | (with_reducible exact digest_Of.mono _ _)
   | (with_reducible exact journal_entry.mono _ _ _)
   | (with_reducible exact LeO.refl _)
   | (with_reducible exact LeO.none _)
   | (with_reducible refine LeO.ite ?_ ?_)
   | (with_reducible refine LeO.bind ?_ (fun _ => ?_))
   | exact ih0 _ _ _ _
   | exact digest_Of.mono _ _
   | exact journal_entry.mono _ _ _
   | exact LeO.none _
   | refine LeO.ite ?_ ?_
   | refine LeO.bind ?_ (fun _ => ?_)
theorem journal_read.mono : ∀ a0 k, LeO (journal_read.f k a0) (journal_read.f (k + 1) a0) := by
 intro a0 k
 have ih0 := journal_read.mono_l k
 unfold journal_read.f
 repeat' first
   | (with_reducible exact ih0 _ _ _ _)
   | (with_reducible exact digest_Of.mono _ _)
   | (with_reducible exact journal_entry.mono _ _ _)
   | (with_reducible exact LeO.refl _)
   | (with_reducible exact LeO.none _)
   | (with_reducible refine LeO.ite ?_ ?_)
   | (with_reducible refine LeO.bind ?_ (fun _ => ?_))
   | exact ih0 _ _ _ _
   | exact digest_Of.mono _ _
   | exact journal_entry.mono _ _ _
   | exact LeO.none _
   | refine LeO.ite ?_ ?_
   | refine LeO.bind ?_ (fun _ => ?_)
set_option maxHeartbeats 8000000 in
set_option maxRecDepth 100000 in
theorem journal_read.calls (k : Nat) (A0 : Option Addr) (c0 : Nat) (l0 : List Int) (r1 : List (S43)) (r2 : Int) (r3 : Int) (r4 : Option Int) (w : World) (hr0 : Kd.C (Kd.int .u8) w A0 l0.length l0) (hc0 : l0.length ≤ c0) (h : journal_read.f k l0 = some (r1, r2, r3, r4)) :
  Calls Tryd.prog 31 #[.slice A0 l0.length c0] w fun e w' => ∃ v0_ vE_ : Value, e = .returned (.tuple #[v0_, .int .i64 r2, .int .u64 r3, vE_]) ∧ PErr w' vE_ r4 ∧ Kd.R k43 43 w' w.heap.size (fun _ => True) v0_ r1 ∧ Below w.heap.size w w' := by
 have hu67 := Tryd.underlying67
 have hu43 := Tryd.underlying43
 have hu55 := Tryd.underlying55
 have HR0 := am hr0
 have HC0 := am hc0
 clear hr0 hc0
 have HB := am (Below.refl w.heap.size w)
 have H : ((digest_Of.f k ([] : List Int)).bind fun t230 => (journal_read.l0 k l0 ([] : List (S43)) 0 t230)) = some (r1, r2, r3, r4) := h
 clear h
 replace H := Option.bind_eq_some_iff.mp H
 obtain ⟨t230, A20, H⟩ := H
 try dsimp only at H
 have A2 := am A20
 clear A20
 have H' := am H
 clear H
 go_enter Tryd.func31, Tryd.ntmps31
 go_wp2_with (first | ((with_reducible refine gate_callee (f := 25) rfl ?_); refine goesL_ (some 13) rfl rfl Tryd.func25 (by kernel_rfl) rfl #[.slice none 0 0] rfl lz ?_; (refine (digest_Of.calls k _ _ ([] : List Int) t230 _ ?side1 ?side2 A2.out).mono ?_); (case side1 => exact Kd.C_nil _ _); (case side2 => exact Nat.le_refl _); rintro e w' ⟨rfl, ⟨nd, rfl⟩⟩; refine ⟨_, rfl, ?_⟩))
 go_loopg [6, 7, 8] k (fun kq v6 v7 v8 w' => ∃ (x6_1 : List (S43)) (x7_1 : Int) (x8_1 : Int), v7 = .int .i64 x7_1 ∧ v8 = .int .u64 x8_1 ∧ Aside0 (journal_read.l0 kq l0 x6_1 x7_1 x8_1 = some (r1, r2, r3, r4)) ∧ Aside0 (kq ≤ k) ∧ Aside0 (Kd.R k43 43 w' w.heap.size (fun _ => True) v6 x6_1) ∧ Aside0 (Below w.heap.size w w'))
 case atStart => exact ⟨(([] : List (S43))), (0), (t230), rfz, rfz, H', ⟨Nat.le_refl _⟩, ⟨nlz⟩, ⟨hz HB.out⟩⟩
 case round =>
  clear H'
  obtain ⟨x6_1, x7_1, x8_1, rfl, rfl, HA, HK1, HO_6, HB⟩ := hrel
  cases gk with
  | zero => exact absurd HA.out (by simp [journal_read.l0])
  | succ k1 =>
   have H := HA.out
   clear HA
   simp only [journal_read.l0] at H
   by_cases c3 : x7_1 < (l0.length : Int)
   ·
    rw [if_pos c3] at H
    have c3b0 : decide (x7_1 < (l0.length : Int)) = true := decide_eq_true c3
    clear c3
    by_cases c4 : (x6_1.length : Int) = 300
    ·
     rw [if_pos c4] at H
     have c4b0 : ((x6_1.length : Int) == 300) = true := beq_iff_eq.mpr c4
     have c4b1 : ((x6_1.length : Int) != 300) = false := bne_eq_false_iff_eq.mpr c4
     clear c4
     simp only [Option.some.injEq, Prod.mk.injEq] at H
     obtain ⟨rfl, rfl, rfl, rfl⟩ := H
     obtain ⟨Ao5, co5, eo5⟩ := Kd.R_slice HO_6.out
     subst eo5
     go_wp2_with (first | ((with_reducible refine gate_dst (N := 25) rfl ?_); refine box_event rfl (N := 25) rfl (cs := #[.int .i64 5]) (t := 67) gz ?_; intro gb231 hg w6 hbox hb; replace HO_6 := am (Kd.R_below (rz HO_6.out) hb); have BK231 := am (hbox); have GW231 := am ((bs hg (hz HB.out) : w.heap.size ≤ gb231)); have GE231 := am ((bs hg (hz HB.out) : w.heap.size ≤ gb231)); replace HB := am (below_step (hz HB.out) hb); clear hb hbox hg))
     refine bodyPost_ret (results_list (rs := [.tmp 2, .tmp 3, .tmp 4, .tmp 5]) rfl (by simp) (.tmp (.tmp (.tmp (.tmp .nil))))) rfl ?_
     exact ⟨_, _, ew, perr_box (bz BK231.out), rz HO_6.out, hz1 HB.out GE231.out⟩
    ·
     rw [if_neg c4] at H
     have c4b0 : ((x6_1.length : Int) == 300) = false := beq_eq_false_iff_ne.mpr c4
     have c4b1 : ((x6_1.length : Int) != 300) = true := bne_iff_ne.mpr c4
     replace H := it_ H
     obtain ⟨c7, H⟩ := H
     have c7b0 := eq_true c7
     have c7b1 : decide (0 ≤ x7_1) = true := decide_eq_true c7
     clear c7
     replace H := it_ H
     obtain ⟨c8, H⟩ := H
     have c8b0 := eq_true c8
     have c8b1 : decide (x7_1 ≤ (l0.length : Int)) = true := decide_eq_true c8
     clear c8
     replace H := Option.bind_eq_some_iff.mp H
     obtain ⟨⟨t233, t234, t235, t236, t237, t240, t241, t242⟩, A90, H⟩ := H
     try dsimp only at H
     have A9 := am A90
     clear A90
     rcases t242 with _ | q244
     ·
      have H1 := H
      rw [if_pos (show (none : Option Int).isNone = true by rfl)] at H1
      clear H
      have H := H1
      clear H1
      try simp only [errW_none, errW_some]
      replace H := it_ H
      obtain ⟨c10, H⟩ := H
      have LMc10 := am c10
      clear c10
      obtain ⟨y245, hy245⟩ : ∃ y_ : List (S43), y_ = (x6_1 ++ [(⟨t233, t234, t235, t236, t237⟩ : S43)]) := ⟨_, rfl⟩
      replace H : (journal_read.l0 k1 l0 y245 (wrap64 (x7_1 + t240)) t241) = some (r1, r2, r3, r4) := by first | (rw [hy245]; with_reducible exact H) | (have H2_ := (Option.bind_some _ _).symm.trans H; rw [hy245]; with_reducible exact H2_) | (have H2_ := (Option.bind_some _ _).symm.trans H; with_reducible exact H2_) | with_reducible exact H | (rw [hy245]; exact H) | exact H
      have Ny245 := am hy245
      clear hy245
      have H' := am H
      clear H
      obtain ⟨Ao11, co11, eo11⟩ := Kd.R_slice HO_6.out
      subst eo11
      obtain ⟨i012, hi012, _, hsz12, _⟩ := info_parts info5
      obtain ⟨A12, hcut12, hA12, hC12⟩ := print_drop_of (P := Tryd.prog) (Value.int .u8) 0 24 5 .i64 Tryd.underlying24 hi012 hsz12 A0 c0 l0 x7_1 (of_decide_eq_true az) (of_decide_eq_true az) HC0.out
      have HR232 := am (Kd.C_of_reads (h1 := fun _ => rfl) (hA12 _ (Kd.reads_of_C HR0.out)))
      have HC232 := am hC12
      clear hA12 hC12 hi012 hsz12
      go_wp2_with (first | ((with_reducible refine gate_callee (f := 44) rfl ?_); refine goesL_ (some 32) rfl rfl Tryd.func44 (by kernel_rfl) rfl #[.slice A12 (l0.drop (x7_1 : Int).toNat).length (c0 - x7_1.toNat), .int .u64 x8_1] rfl (by (try simp only [List.map_toArray, List.map_cons, List.map_nil]); first | done | (rw [show (l0.drop (x7_1 : Int).toNat).length = (l0.length - x7_1.toNat) from List.length_drop] <;> rfl) | rfl | (simp only [List.length_drop, List.length_take]; rfl)) ?_; (with_reducible refine (journal_entry.calls k1 _ _ (l0.drop (x7_1 : Int).toNat) x8_1 t233 t234 t235 t236 t237 t240 t241 none _ ?side1 ?side2 A9.out).mono ?_); (case side1 => exact cz (Kd.C_below HR232.out HB.out)); (case side2 => exact HC232.out); rintro e w13 ⟨v238, vE_, rfl, hE_, ho0, hb⟩; obtain rfl : vE_ = .nilIface := hE_; refine ⟨_, rfl, ?_⟩; have HO239 := am (Kd.R_lower (Kd.R_new' ho0 (Kd.R_lt (rz HO_6.out))) (below_size (hz HB.out))); replace HO_6 := am (Kd.R_elder' (rz HO_6.out) (Kd.R_base ho0) hb); replace HB := am (below_step (hz HB.out) hb); (try simp only [errW_none, errW_some])) | ((with_reducible refine gate_dst (N := 9) rfl ?_); refine box_event rfl (N := 9) rfl (cs := #[.int .i64 0, .int .i64 0, .int .i64 0, .string (⟨#[]⟩ : ByteArray), .slice none 0 0]) (t := 43) gz ?_; intro gb243 hg w14 hbox hb; replace HO_6 := am (Kd.R_below (Kd.R_elderB (rz HO_6.out) gb243 (Nat.le_of_eq hg.symm)) hb); replace HO239 := am (Kd.R_below (Kd.R_elderB (rz HO239.out) gb243 (Nat.le_of_eq hg.symm)) hb); have BK243 := am (hbox); have GW243 := am ((bs hg (hz HB.out) : w.heap.size ≤ gb243)); have GE243 := am ((bs hg (hz HB.out) : w.heap.size ≤ gb243)); replace HB := am (below_step (hz HB.out) hb); clear hb hbox hg; obtain ⟨hcz15_0, hcz15_1, hcz15_2, hcz15_3, hcz15_4⟩ := cs5 BK243.out; obtain ⟨hfz15_0, hfz15_1, hfz15_2, hfz15_3, hfz15_4⟩ := fs5 BK243.out; obtain ⟨Ao16, co16, eo16⟩ := Kd.R_slice HO239.out; subst eo16) | ((with_reducible refine gate_store (t := 43) (p := 9) rfl ?_); refine store_event (t := 43) (p := 9) (v := ?vo_w17) (w1 := (((((w14.setCell ⟨gb243, 0, none⟩ (.int .i64 t233)).setCell ⟨gb243, 1, none⟩ (.int .i64 t234)).setCell ⟨gb243, 2, none⟩ (.int .i64 t235)).setCell ⟨gb243, 3, none⟩ (.string t236)).setCell ⟨gb243, 4, none⟩ (.slice Ao16 t237.length co16))) ?hg ?ho ?hn ?hr ?_; (case ho => rfl); (case hg => rfl); (case hn => rfl); (case hr => exact gz); intro w17 hw; replace HO_6 : Aside0 (Kd.R k43 43 w17 w.heap.size (fun k_ => some k_ ≠ (.slice Ao16 t237.length co16 : Value).ownBlock ∧ k_ ≠ gb243) (.slice Ao11 x6_1.length co11) x6_1) := ⟨(by rw [hw]; exact (rz (Kd.R_mono (Kd.R_far (p := ⟨gb243, 4, none⟩) (Kd.R_far (p := ⟨gb243, 3, none⟩) (Kd.R_far (p := ⟨gb243, 2, none⟩) (Kd.R_far (p := ⟨gb243, 1, none⟩) (Kd.R_far (p := ⟨gb243, 0, none⟩) (Kd.R_mono HO_6.out (fun k_ hk => (⟨hk, hk.2⟩ : _ ∧ k_ ≠ gb243))) (fun _ hk => hk.2) (.int .i64 t233)) (fun _ hk => hk.2) (.int .i64 t234)) (fun _ hk => hk.2) (.int .i64 t235)) (fun _ hk => hk.2) (.string t236)) (fun _ hk => hk.2) (.slice Ao16 t237.length co16)) (fun _ hk => ⟨hk.1.1.2, hk.1.2⟩))))⟩; replace HO239 : Aside0 (Kd.R k43 43 w17 w.heap.size (fun k_ => some k_ ≠ (.slice Ao11 x6_1.length co11 : Value).ownBlock ∧ k_ ≠ gb243) (.slice Ao16 t237.length co16) t237) := ⟨(by rw [hw]; exact (rz (Kd.R_mono (Kd.R_far (p := ⟨gb243, 4, none⟩) (Kd.R_far (p := ⟨gb243, 3, none⟩) (Kd.R_far (p := ⟨gb243, 2, none⟩) (Kd.R_far (p := ⟨gb243, 1, none⟩) (Kd.R_far (p := ⟨gb243, 0, none⟩) (Kd.R_mono HO239.out (fun k_ hk => (⟨hk, hk.2⟩ : _ ∧ k_ ≠ gb243))) (fun _ hk => hk.2) (.int .i64 t233)) (fun _ hk => hk.2) (.int .i64 t234)) (fun _ hk => hk.2) (.int .i64 t235)) (fun _ hk => hk.2) (.string t236)) (fun _ hk => hk.2) (.slice Ao16 t237.length co16)) (fun _ hk => ⟨hk.1.1.2, hk.1.2⟩))))⟩; replace BK243 : Aside0 (w17.heap[gb243]? = some (.cells #[.int .i64 t233, .int .i64 t234, .int .i64 t235, .string t236, .slice Ao16 t237.length co16] 43 (0, 0))) := ⟨(by rw [hw]; exact (bp BK243.out))⟩; replace HB : Aside0 (Below w.heap.size w w17) := ⟨(by rw [hw]; exact (hz1 HB.out GE243.out))⟩; clear hw; obtain ⟨hcz18_0, hcz18_1, hcz18_2, hcz18_3, hcz18_4⟩ := cs5 BK243.out; obtain ⟨hfz18_0, hfz18_1, hfz18_2, hfz18_3, hfz18_4⟩ := fs5 BK243.out) | ((with_reducible refine gate_builtin (b := .append) (xs := #[.tmp 43, .tmp 45]) rfl ?_); at_builtin; refine Kd.R_append k43 (w0 := w) w.heap.size rfl (.tmp 43) (.tmp 45) 22 43 (.agg #[(.int .i64 0), (.int .i64 0), (.int .i64 0), (.string ⟨#[]⟩), (.slice none 0 0)]) 64 rfl Tryd.underlying22 info43 rfl (by decide) (by omega) (.slice Ao11 x6_1.length co11) x6_1 (⟨t233, t234, t235, t236, t237⟩ : S43) [.int .i64 t233, .int .i64 t234, .int .i64 t235, .string t236, .slice Ao16 t237.length co16] (fun k_ => k_ ≠ gb243) (fun k_ => ((fun k_ => k_ ≠ gb243)) k_ ∧ some k_ ≠ (.slice Ao11 x6_1.length co11 : Value).ownBlock) rfl rfl ?aP (fun _ hk => hk) ?aF ?aO ?aB ?aS ?aL ?_; (case aP => exact k43_mkM _ _ _ (⟨t233, t234, t235, t236, t237⟩ : S43) (Kd.R_mono (HO239.out) (fun k_ hk => ⟨hk.2, hk.1⟩))); (case aB => exact (hz1 HB.out GE243.out)); (case aF => exact (fun k_ hk => Kd.freshB (g := gb243) (o := .cells #[.int .i64 t233, .int .i64 t234, .int .i64 t235, .string t236, .slice Ao16 t237.length co16] 43 (0, 0)) (bz BK243.out) k_ hk)); (case aO => exact (rz (Kd.R_mono HO_6.out (fun _ hk => hk.2)))); (case aS => exact (below_size (hz1 HB.out GE243.out))); (case aL => have := LMc10.out; omega); intro v246 w19 ho hb hg hat; rw [← Ny245.out] at ho; replace BK243 := am (blk_grown (bz BK243.out) hg (Kd.R_away HO_6.out (fun _ hk => hk.2))); replace HB := am (hb); have HO247 := am (ho); clear HO_6 HO239; clear ho hb hg hat))
      go_roundg k1
      case measure => have := HK1.out; omega
      case rel => exact ⟨(y245), (wrap64 (x7_1 + t240)), (t241), rfz, rfz, H', ⟨by have := HK1.out; omega⟩, ⟨by (with_reducible repeat (first | apply Kd.R_alloc | apply Kd.R_drewN | apply Kd.R_drew)); exact Kd.R_mono HO247.out (fun _ hk => trivial)⟩, ⟨hz1 HB.out GE243.out⟩⟩
     ·
      have H1 := H
      rw [if_neg (show ¬ (some q244).isNone = true by simp)] at H1
      clear H
      have H := H1
      clear H1
      try simp only [errW_none, errW_some]
      simp only [Option.some.injEq, Prod.mk.injEq] at H
      obtain ⟨rfl, rfl, rfl, rfl⟩ := H
      obtain ⟨Ao20, co20, eo20⟩ := Kd.R_slice HO_6.out
      subst eo20
      obtain ⟨i021, hi021, _, hsz21, _⟩ := info_parts info5
      obtain ⟨A21, hcut21, hA21, hC21⟩ := print_drop_of (P := Tryd.prog) (Value.int .u8) 0 24 5 .i64 Tryd.underlying24 hi021 hsz21 A0 c0 l0 x7_1 (of_decide_eq_true az) (of_decide_eq_true az) HC0.out
      have HR232 := am (Kd.C_of_reads (h1 := fun _ => rfl) (hA21 _ (Kd.reads_of_C HR0.out)))
      have HC232 := am hC21
      clear hA21 hC21 hi021 hsz21
      go_wp2_with (first | ((with_reducible refine gate_callee (f := 44) rfl ?_); refine goesL_ (some 32) rfl rfl Tryd.func44 (by kernel_rfl) rfl #[.slice A21 (l0.drop (x7_1 : Int).toNat).length (c0 - x7_1.toNat), .int .u64 x8_1] rfl (by (try simp only [List.map_toArray, List.map_cons, List.map_nil]); first | done | (rw [show (l0.drop (x7_1 : Int).toNat).length = (l0.length - x7_1.toNat) from List.length_drop] <;> rfl) | rfl | (simp only [List.length_drop, List.length_take]; rfl)) ?_; (with_reducible refine (journal_entry.calls k1 _ _ (l0.drop (x7_1 : Int).toNat) x8_1 t233 t234 t235 t236 t237 t240 t241 (some q244) _ ?side1 ?side2 A9.out).mono ?_); (case side1 => exact cz (Kd.C_below HR232.out HB.out)); (case side2 => exact HC232.out); rintro e w22 ⟨v238, vE_, rfl, ⟨gE_, eE_, hE_⟩, ho0, hb⟩; subst eE_; have BE_ := am hE_; clear hE_; refine ⟨_, rfl, ?_⟩; have HO239 := am (Kd.R_lower (Kd.R_new' ho0 (Kd.R_lt (rz HO_6.out))) (below_size (hz HB.out))); replace HO_6 := am (Kd.R_elder' (rz HO_6.out) (Kd.R_base ho0) hb); replace HB := am (below_step (hz HB.out) hb); (try simp only [errW_none, errW_some])) | ((with_reducible refine gate_dst (N := 9) rfl ?_); refine box_event rfl (N := 9) rfl (cs := #[.int .i64 0, .int .i64 0, .int .i64 0, .string (⟨#[]⟩ : ByteArray), .slice none 0 0]) (t := 43) gz ?_; intro gb243 hg w23 hbox hb; have NE_ := am (nl hg (bz BE_.out) : gE_ ≠ gb243); replace BE_ := am (blk_below (bz BE_.out) hb); replace HO_6 := am (Kd.R_below (Kd.R_elderB (rz HO_6.out) gb243 (Nat.le_of_eq hg.symm)) hb); replace HO239 := am (Kd.R_below (Kd.R_elderB (rz HO239.out) gb243 (Nat.le_of_eq hg.symm)) hb); have BK243 := am (hbox); have GW243 := am ((bs hg (hz HB.out) : w.heap.size ≤ gb243)); have GE243 := am ((bs hg (hz HB.out) : w.heap.size ≤ gb243)); replace HB := am (below_step (hz HB.out) hb); clear hb hbox hg; obtain ⟨hcz24_0, hcz24_1, hcz24_2, hcz24_3, hcz24_4⟩ := cs5 BK243.out; obtain ⟨hfz24_0, hfz24_1, hfz24_2, hfz24_3, hfz24_4⟩ := fs5 BK243.out; obtain ⟨Ao25, co25, eo25⟩ := Kd.R_slice HO239.out; subst eo25))
      refine bodyPost_ret (results_list (rs := [.tmp 2, .tmp 3, .tmp 4, .tmp 5]) rfl (by simp) (.tmp (.tmp (.tmp (.tmp .nil))))) rfl ?_
      exact ⟨_, _, ew, perr_box (bf1 NE_.out BE_.out), by (with_reducible repeat (first | apply Kd.R_alloc | apply Kd.R_drewN | apply Kd.R_drew)); exact Kd.R_mono (Kd.R_far (p := ⟨gb243, 4, none⟩) (Kd.R_far (p := ⟨gb243, 3, none⟩) (Kd.R_far (p := ⟨gb243, 2, none⟩) (Kd.R_far (p := ⟨gb243, 1, none⟩) (Kd.R_far (p := ⟨gb243, 0, none⟩) (Kd.R_mono HO_6.out (fun k_ hk => (⟨hk, hk.2⟩ : _ ∧ k_ ≠ gb243))) (fun _ hk => hk.2) (.int .i64 t233)) (fun _ hk => hk.2) (.int .i64 t234)) (fun _ hk => hk.2) (.int .i64 t235)) (fun _ hk => hk.2) (.string t236)) (fun _ hk => hk.2) (.slice Ao25 t237.length co25)) (fun _ hk => trivial), hz1 HB.out GE243.out⟩
   ·
    rw [if_neg c3] at H
    have c3b0 : decide (x7_1 < (l0.length : Int)) = false := decide_eq_false c3
    clear c3
    simp only [Option.some.injEq, Prod.mk.injEq] at H
    obtain ⟨rfl, rfl, rfl, rfl⟩ := H
    go_wp2
    refine bodyPost_ret (results_list (rs := [.tmp 2, .tmp 3, .tmp 4, .tmp 5]) rfl (by simp) (.tmp (.tmp (.tmp (.tmp .nil))))) rfl ?_
    exact ⟨_, _, ew, perr_nil _, rz HO_6.out, hz HB.out⟩

end Go.Proofs.YteeggfnailpcpaaDoor.Q
