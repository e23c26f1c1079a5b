/- Made by wip/myprint.py of this session (it drives the kit's printer): what the calls of the Go functions come to, as plain Lean functions, and the row of a law over them; without conditions. -/
import Derived.Test.YtglpnbcockancaaQx0
import Derived.Test.YtglpnbcockancaaQx1
import Derived.Test.YtglpnbcockancaaQx4
import Derived.Test.YtglpnbcockancaaQx6
import Derived.Test.YtglpnbcockancaaQx7
import Derived.Test.YtglpnbcockancaaQx8
import Derived.Test.YtglpnbcockancaaQx9
import Derived.Test.YtglpnbcockancaaQx18
namespace Go.Proofs.Ytglpnbcockancaa.Q
open Go.RowKit Go.Proofs.YtglpnbcockancaaW.PrintWords Go.Proofs.YtglpnbcockancaaW.PrintLast Go.Proofs.YtglpnbcockancaaW.PrintMore
attribute [local go_sem] max2_int min2_int max_two min_two max_three min_three max_four min_four   -- for this text's walks alone
set_option linter.unusedVariables false
set_option linter.unusedSimpArgs false

/-! ### examboardlaw53_UploadRest: function 8 -/
def examboardlaw53_UploadRest.l0 : Nat → List Int → List (S25) → Int → Int → Int → List Int → List (S25) → Option (Bool)
 | 0, _, _, _, _, _, _, _ => none
 | k + 1, x10, x53, x54, x55, x40018000, x40018001, x40018002 => if x55 < x54 then (if 0 ≤ x55 then (if x55 < (x53.length : Int) then ((upload_Receive.f k x40018000 x40018001 x40018002 ((rd_T25 x53 x55).f0) ((rd_T25 x53 x55).f1) ((rd_T25 x53 x55).f2) ((rd_T25 x53 x55).f3)).bind fun bt40030 => (if bt40030.2.2.2 = 0 then ((upload_Need.f bt40030.1 bt40030.2.1 bt40030.2.2.1).bind fun t40039 => ((upload_Need.f x40018000 x40018001 x40018002).bind fun t40040 => (if t40039 < t40040 then (none) else (examboardlaw53_UploadRest.l0 k x10 x53 x54 (wrap64 (x55 + 1)) bt40030.1 bt40030.2.1 bt40030.2.2.1)))) else (none))) else (none)) else (none)) else ((upload_Rest.f k x40018000 x40018001 x40018002 x10 1).bind fun bt40022 => ((examboardlaw53_equal.f k x40018001 x10).bind fun t40026 => (if t40026 = true then (if (x40018002.length : Int) = 0 then (if (bt40022.1.length : Int) = 0 then (if bt40022.2 = 0 then ((examboardlaw53_awake.f k).bind fun t40027 => (some t40027)) else (none)) else (none)) else (none)) else (none))))
def examboardlaw53_UploadRest.f (k : Nat) (l0 : List Int) (a1_0 : Int) (a1_1 : Int) (l2 : List Int) (a3 : Int) : Option (Bool) := (examboardlaw53_fleet.f k l0 a1_0 a1_1).bind fun bt40002 => ((examboardlaw53_state.f k bt40002.1 l2).bind fun bt40009 => (if bt40002.2.2 = true then (if bt40009.2.2.2 = true then ((upload_Rest.f k bt40009.1 bt40009.2.1 bt40009.2.2.1 bt40002.2.1 (wrap64 ((wrap64 (Int.tmod a3 20)) + 1))).bind fun bt40018 => (if bt40018.2 = 0 then (examboardlaw53_UploadRest.l0 k bt40002.2.1 bt40018.1 (bt40018.1.length : Int) 0 bt40009.1 bt40009.2.1 bt40009.2.2.1) else (none))) else (none)) else (none)))
theorem examboardlaw53_UploadRest.mono_l : ∀ k, (∀ y0 y1 y2 y3 y4 y5 y6, LeO (examboardlaw53_UploadRest.l0 k y0 y1 y2 y3 y4 y5 y6) (examboardlaw53_UploadRest.l0 (k + 1) y0 y1 y2 y3 y4 y5 y6))
 | 0 => fun _ _ _ _ _ _ _ r h => by simp [examboardlaw53_UploadRest.l0] at h
 | k + 1 => by
  have ih0 := examboardlaw53_UploadRest.mono_l k
  ·
   intro y0 y1 y2 y3 y4 y5 y6
   unfold examboardlaw53_UploadRest.l0
   repeat' first
   | (with_reducible exact ih0 _ _ _ _ _ _ _)
   | (with_reducible exact examboardlaw53_awake.mono _)
   | (with_reducible exact examboardlaw53_equal.mono _ _ _)
   | (with_reducible exact examboardlaw53_fleet.mono _ _ _ _)
   | (with_reducible exact examboardlaw53_state.mono _ _ _)
   | (with_reducible exact upload_Receive.mono _ _ _ _ _ _ _ _)
   | (with_reducible exact upload_Rest.mono _ _ _ _ _ _)
   | (with_reducible exact LeO.refl _)
   | (with_reducible exact LeO.none _)
   | (with_reducible refine LeO.ite ?_ ?_)
   | (with_reducible refine LeO.bind ?_ (fun _ => ?_))
   | exact ih0 _ _ _ _ _ _ _
   | exact examboardlaw53_awake.mono _
   | exact examboardlaw53_equal.mono _ _ _
   | exact examboardlaw53_fleet.mono _ _ _ _
   | exact examboardlaw53_state.mono _ _ _
   | exact upload_Receive.mono _ _ _ _ _ _ _ _
   | exact upload_Rest.mono _ _ _ _ _ _
   | exact LeO.none _
   | refine LeO.ite ?_ ?_
   | refine LeO.bind ?_ (fun _ => ?_)
theorem examboardlaw53_UploadRest.mono : ∀ a0 a1 a2 a3 a4 k, LeO (examboardlaw53_UploadRest.f k a0 a1 a2 a3 a4) (examboardlaw53_UploadRest.f (k + 1) a0 a1 a2 a3 a4) := by
 intro a0 a1 a2 a3 a4 k
 have ih0 := examboardlaw53_UploadRest.mono_l k
 unfold examboardlaw53_UploadRest.f
 repeat' first
   | (with_reducible exact ih0 _ _ _ _ _ _ _)
   | (with_reducible exact examboardlaw53_awake.mono _)
   | (with_reducible exact examboardlaw53_equal.mono _ _ _)
   | (with_reducible exact examboardlaw53_fleet.mono _ _ _ _)
   | (with_reducible exact examboardlaw53_state.mono _ _ _)
   | (with_reducible exact upload_Receive.mono _ _ _ _ _ _ _ _)
   | (with_reducible exact upload_Rest.mono _ _ _ _ _ _)
   | (with_reducible exact LeO.refl _)
   | (with_reducible exact LeO.none _)
   | (with_reducible refine LeO.ite ?_ ?_)
   | (with_reducible refine LeO.bind ?_ (fun _ => ?_))
   | exact ih0 _ _ _ _ _ _ _
   | exact examboardlaw53_awake.mono _
   | exact examboardlaw53_equal.mono _ _ _
   | exact examboardlaw53_fleet.mono _ _ _ _
   | exact examboardlaw53_state.mono _ _ _
   | exact upload_Receive.mono _ _ _ _ _ _ _ _
   | exact upload_Rest.mono _ _ _ _ _ _
   | exact LeO.none _
   | refine LeO.ite ?_ ?_
   | refine LeO.bind ?_ (fun _ => ?_)
def examboardlaw53_UploadRest.T12 : Bool × List (List Nat × List Nat) := (true, [([], []), ([0], [0]), ([1], [1]), ([2], [2]), ([3, 2, 2], [2, 3]), ([2], [2]), ([5, 4, 2], [2, 5]), ([4, 6, 2], [2, 4, 6]), ([2, 7], [2, 7])])
def examboardlaw53_UploadRest.B12 : List Nat := [0, 1, 3, 7, 15, 7, 63, 127, 255]
theorem examboardlaw53_UploadRest.tab12 : rtab .any (opsOf Try.f8 12) = examboardlaw53_UploadRest.T12 := by kernel_rfl
theorem examboardlaw53_UploadRest.bits12 : waitsOk examboardlaw53_UploadRest.T12.2 examboardlaw53_UploadRest.B12 = true := by kernel_rfl
set_option maxHeartbeats 8000000 in
set_option maxRecDepth 100000 in
theorem examboardlaw53_UploadRest.calls (k : Nat) (A0 : Option Addr) (c0 : Nat) (l0 : List Int) (a1_0 : Int) (a1_1 : Int) (A2 : Option Addr) (c2 : Nat) (l2 : List Int) (a3 : Int) (r : Bool) (w : World) (hr0 : Kd.C (Kd.int .u8) w A0 l0.length l0) (hc0 : l0.length ≤ c0) (hr2 : Kd.C (Kd.int .u8) w A2 l2.length l2) (hc2 : l2.length ≤ c2) (h : examboardlaw53_UploadRest.f k l0 a1_0 a1_1 l2 a3 = some r) :
  Calls Try.prog 8 #[.slice A0 l0.length c0, .agg #[.int .u8 a1_0, .int .u8 a1_1], .slice A2 l2.length c2, .int .u8 a3] w fun e w' => e = .returned (.bool r) ∧ Below w.heap.size w w' := by
 have hu41 := Try.underlying41
 have hu34 := Try.underlying34
 have hu25 := Try.underlying25
 have HR0 := am hr0
 have HC0 := am hc0
 clear hr0 hc0
 have HR2 := am hr2
 have HC2 := am hc2
 clear hr2 hc2
 have HB := am (Below.refl w.heap.size w)
 have H : ((examboardlaw53_fleet.f k l0 a1_0 a1_1).bind fun bt40002 => ((examboardlaw53_state.f k bt40002.1 l2).bind fun bt40009 => (if bt40002.2.2 = true then (if bt40009.2.2.2 = true then ((upload_Rest.f k bt40009.1 bt40009.2.1 bt40009.2.2.1 bt40002.2.1 (wrap64 ((wrap64 (Int.tmod a3 20)) + 1))).bind fun bt40018 => (if bt40018.2 = 0 then (examboardlaw53_UploadRest.l0 k bt40002.2.1 bt40018.1 (bt40018.1.length : Int) 0 bt40009.1 bt40009.2.1 bt40009.2.2.1) else (none))) else (none)) else (none)))) = some r := h
 clear h
 replace H := Option.bind_eq_some_iff.mp H
 obtain ⟨⟨t40002, t40005, t40008⟩, A50, H⟩ := H
 replace H : ((examboardlaw53_state.f k t40002 l2).bind fun bt40009 => (if t40008 = true then (if bt40009.2.2.2 = true then ((upload_Rest.f k bt40009.1 bt40009.2.1 bt40009.2.2.1 t40005 (wrap64 ((wrap64 (Int.tmod a3 20)) + 1))).bind fun bt40018 => (if bt40018.2 = 0 then (examboardlaw53_UploadRest.l0 k t40005 bt40018.1 (bt40018.1.length : Int) 0 bt40009.1 bt40009.2.1 bt40009.2.2.1) else (none))) else (none)) else (none))) = some r := H
 have A5 := am A50
 clear A50
 replace H := Option.bind_eq_some_iff.mp H
 obtain ⟨⟨t40009, t40010, t40013, t40016⟩, A60, H⟩ := H
 replace H : (if t40008 = true then (if t40016 = true then ((upload_Rest.f k t40009 t40010 t40013 t40005 (wrap64 ((wrap64 (Int.tmod a3 20)) + 1))).bind fun bt40018 => (if bt40018.2 = 0 then (examboardlaw53_UploadRest.l0 k t40005 bt40018.1 (bt40018.1.length : Int) 0 t40009 t40010 t40013) else (none))) else (none)) else (none)) = some r := H
 have A6 := am A60
 clear A60
 by_cases c7 : t40008 = true
 ·
  subst c7
  have H1 : (if t40016 = true then ((upload_Rest.f k t40009 t40010 t40013 t40005 (wrap64 ((wrap64 (Int.tmod a3 20)) + 1))).bind fun bt40018 => (if bt40018.2 = 0 then (examboardlaw53_UploadRest.l0 k t40005 bt40018.1 (bt40018.1.length : Int) 0 t40009 t40010 t40013) else (none))) else (none)) = some r := by rw [if_pos rfl] at H; exact H
  clear H
  have H := H1
  clear H1
  by_cases c8 : t40016 = true
  ·
   subst c8
   have H1 : ((upload_Rest.f k t40009 t40010 t40013 t40005 (wrap64 ((wrap64 (Int.tmod a3 20)) + 1))).bind fun bt40018 => (if bt40018.2 = 0 then (examboardlaw53_UploadRest.l0 k t40005 bt40018.1 (bt40018.1.length : Int) 0 t40009 t40010 t40013) else (none))) = some r := by rw [if_pos rfl] at H; exact H
   clear H
   have H := H1
   clear H1
   replace H := Option.bind_eq_some_iff.mp H
   obtain ⟨⟨t40018, t40021⟩, A90, H⟩ := H
   replace H : (if t40021 = 0 then (examboardlaw53_UploadRest.l0 k t40005 t40018 (t40018.length : Int) 0 t40009 t40010 t40013) else (none)) = some r := H
   have A9 := am A90
   clear A90
   replace H := it_ H
   obtain ⟨c10, H⟩ := H
   have c10b0 : (t40021 == 0) = true := beq_iff_eq.mpr c10
   have c10b1 : (t40021 != 0) = false := bne_eq_false_iff_eq.mpr c10
   clear c10
   have H' := am H
   clear H
   go_enter Try.func8, Try.ntmps8
   go_wp2_with (first | ((with_reducible refine gate_dst (N := 5) rfl ?_); (try (refine gate_guard (by rfl) ?_; dsimp only)); refine box_event ?hg (N := 5) ?hd (cs := #[.int .u8 a1_0, .int .u8 a1_1]) (t := 41) ?hr ?_; (case hd => rfl); (case hg => rfl); (case hr => exact gz); intro gb40001 hg w11 hbox hb; have BK40001 := am (hbox); have GW40001 := am ((bs hg (hz HB.out) : w.heap.size ≤ gb40001)); have GE40001 := am ((bs hg (hz HB.out) : w.heap.size ≤ gb40001)); replace HB := am (below_step (hz HB.out) hb); clear hb hbox hg; obtain ⟨hcz12_0, hcz12_1⟩ := cs2 BK40001.out; obtain ⟨hfz12_0, hfz12_1⟩ := fs2 BK40001.out) | ((with_reducible refine gate_callee (f := 19) rfl ?_); refine goesL_ (some 25) rfl rfl Try.func19 (by kernel_rfl) rfl #[.slice A0 l0.length c0, .agg #[.int .u8 a1_0, .int .u8 a1_1]] rfl lz ?_; (with_reducible refine (examboardlaw53_fleet.calls k (fun k_ => k_ < w.heap.size) _ _ l0 a1_0 a1_1 t40002 t40005 true _ ?side1 A5.out).mono ?_); (case side1 => exact Kd.V_mk HC0.out (Kd.F_below (Kd.C_F (Kd.heap_int .u8) HR0.out) (hz1 HB.out GE40001.out))); rintro e w13 ⟨v40003, v40006, rfl, ho0, ho1, hb⟩; refine ⟨_, rfl, ?_⟩; have HO40004 := am (Kd.N_lower (Kd.N_mono (ok' := fun k_ => k_ ≠ gb40001) ho0 (fun k_ hk_ => Or.elim hk_ (fun hs_ => fun e_ => Nat.not_le.2 hs_ (by rw [e_]; exact GW40001.out)) (fun hn_ => (Kd.freshB (g := gb40001) (o := .cells #[.int .u8 a1_0, .int .u8 a1_1] 41 (0, 0)) (bz BK40001.out) k_ hn_)))) (below_size (hz1 HB.out GE40001.out))); have HO40007 := am (Kd.V_lower (Kd.V_mono (ok' := fun k_ => some k_ ≠ (v40003 : Value).ownBlock ∧ k_ ≠ gb40001) ho1 (fun k_ hk_ => ⟨hk_.2, Or.elim hk_.1 (fun hs_ => fun e_ => Nat.not_le.2 hs_ (by rw [e_]; exact GW40001.out)) (fun hn_ => (Kd.freshB (g := gb40001) (o := .cells #[.int .u8 a1_0, .int .u8 a1_1] 41 (0, 0)) (bz BK40001.out) k_ hn_))⟩)) (below_size (hz1 HB.out GE40001.out))); replace BK40001 := am (blk_below (bz BK40001.out) hb); replace HB := am (below_step (hz1 HB.out GE40001.out) hb); (try clear hb); (try clear hb2); (try clear hk); (try clear hi); (try clear ho0); (try clear ho1); obtain ⟨Ao14, co14, eo14⟩ := Kd.N_slice HO40004.out; subst eo14) | ((with_reducible refine gate_callee (f := 23) rfl ?_); refine goesL_ (some 32) rfl rfl Try.func23 (by kernel_rfl) rfl #[.slice Ao14 t40002.length co14, .slice A2 l2.length c2] rfl lz ?_; (with_reducible refine (examboardlaw53_state.calls k _ _ t40002 _ _ l2 t40009 t40010 t40013 true _ ?side1 ?side2 ?side3 ?side4 A6.out).mono ?_); (case side1 => repeat (first | exact (Kd.N_reads' HO40004.out).2.2 | (with_reducible refine Kd.C_alloc ?_ _) | (with_reducible refine Kd.C_drewN ?_ _) | (with_reducible refine Kd.C_drew ?_))); (case side2 => exact (Kd.N_reads' HO40004.out).2.1); (case side3 => exact cz (Kd.C_below HR2.out HB.out)); (case side4 => exact HC2.out); rintro e w15 ⟨v40011, v40014, rfl, ho0, ho1, hb⟩; refine ⟨_, rfl, ?_⟩; replace HO40007 := am (Kd.V_mono (Kd.V_told (Kd.V_told (Kd.V_old (vz HO40007.out) hb) (Kd.R_base ho0)) (Kd.S_base ho1)) (fun _ h_ => h_.1)); have HO40012 := am (Kd.R_lower ho0 (below_size (hz1 HB.out GE40001.out))); have HO40015 := am (Kd.N_lower (Kd.N_mono (ok' := fun k_ => some k_ ≠ (v40011 : Value).ownBlock ∧ some k_ ≠ (.slice Ao14 t40002.length co14 : Value).ownBlock ∧ k_ ≠ gb40001) (Kd.S_N (Kd.S_bound ho1)) (fun k_ hk_ => ⟨hk_.1, (Kd.fresh' (Kd.N_lt (nz HO40004.out)) k_ hk_.2.1), (Kd.freshB (g := gb40001) (o := .cells #[.int .u8 a1_0, .int .u8 a1_1] 41 (0, 0)) (bz BK40001.out) k_ hk_.2.1)⟩)) (below_size (hz1 HB.out GE40001.out))); replace HO40004 := am (Kd.N_mono (Kd.N_told (Kd.N_told (Kd.N_old (nz HO40004.out) hb) (Kd.R_base ho0)) (Kd.S_base ho1)) (fun _ h_ => h_.1)); replace BK40001 := am (blk_below (bz BK40001.out) hb); replace HB := am (below_step (hz1 HB.out GE40001.out) hb); (try clear hb); (try clear hb2); (try clear hk); (try clear hi); (try clear ho0); (try clear ho1)) | ((with_reducible refine gate_dst (N := 12) rfl ?_); (try (refine gate_guard (by rfl) ?_; dsimp only)); refine box_event ?hg (N := 12) ?hd (cs := #[.int .i64 0, .slice none 0 0, .slice none 0 0]) (t := 34) ?hr ?_; (case hd => rfl); (case hg => rfl); (case hr => exact gz); intro gb40017 hg w16 hbox hb; replace HO40004 := am (Kd.N_below (Kd.N_elderB (nz HO40004.out) gb40017 (Nat.le_of_eq hg.symm)) hb); replace HO40007 := am (Kd.V_below (Kd.V_elderB (vz HO40007.out) gb40017 (Nat.le_of_eq hg.symm)) hb); replace HO40012 := am (Kd.R_below (rz HO40012.out) hb); replace HO40015 := am (Kd.N_below (Kd.N_elderB (nz HO40015.out) gb40017 (Nat.le_of_eq hg.symm)) hb); have BK40017 := am (hbox); have GW40017 := am ((bs hg (hz1 HB.out GE40001.out) : w.heap.size ≤ gb40017)); have GE40017 := am ((bs hg (hz1 HB.out GE40001.out) : w.heap.size ≤ gb40017)); replace HB := am (below_step (hz1 HB.out GE40001.out) hb); have NB40001_40017 := am ((nl hg (bz BK40001.out) : gb40001 ≠ gb40017)); have NB40017_40001 := am ((ng hg (bz BK40001.out) : gb40017 ≠ gb40001)); replace BK40001 := am (blk_below (bz BK40001.out) hb); clear hb hbox hg; have hnb17 := NB40017_40001.out; have hnc17 := NB40001_40017.out; obtain ⟨hcz18_0, hcz18_1, hcz18_2⟩ := cs3 BK40017.out; obtain ⟨hfz18_0, hfz18_1, hfz18_2⟩ := fs3 BK40017.out; obtain ⟨Ao19, co19, eo19⟩ := Kd.R_slice HO40012.out; subst eo19; obtain ⟨Ao20, co20, eo20⟩ := Kd.N_slice HO40015.out; subst eo20; obtain ⟨Ao21, co21, eo21⟩ := Kd.V_slice HO40007.out; subst eo21) | ((with_reducible refine gate_callee (f := 24) rfl ?_); refine goesL_ (some 48) rfl rfl Try.func24 (by kernel_rfl) rfl #[.agg #[.int .i64 t40009, .slice Ao19 t40010.length co19, .slice Ao20 t40013.length co20], .slice Ao21 t40005.length co21, .int .i64 (wrap64 ((wrap64 (Int.tmod a3 20)) + 1))] rfl lz ?_; (with_reducible refine (upload_Rest.calls k t40009 _ _ t40010 _ _ t40013 _ _ t40005 (wrap64 ((wrap64 (Int.tmod a3 20)) + 1)) t40018 t40021 _ ?side1 ?side2 ?side3 ?side4 ?side5 ?side6 A9.out).mono ?_); (case side1 => refine (Kd.R_reads' (e := 5) (base := w.heap.size) (ok := fun k_ => True) (n := t40010.length) (c := co19) ?_).2.2; exact (rz (rf3 HO40012.out BK40017.out))); (case side2 => exact (Kd.R_reads' HO40012.out).2.1); (case side3 => refine (Kd.N_reads' (e := 25) (base := w.heap.size) (ok := fun k_ => ((some k_ ≠ (.slice Ao19 t40010.length co19 : Value).ownBlock ∧ (some k_ ≠ (.slice Ao14 t40002.length co14 : Value).ownBlock ∧ k_ ≠ gb40001)) ∧ k_ ≠ gb40017)) (n := t40013.length) (c := co20) ?_).2.2; exact (nz (Kd.N_mono (Kd.N_far (p := ⟨gb40017, 2, none⟩) (Kd.N_far (p := ⟨gb40017, 1, none⟩) (Kd.N_far (p := ⟨gb40017, 0, none⟩) (Kd.N_mono HO40015.out (fun k_ hk => (⟨hk, hk.2⟩ : _ ∧ k_ ≠ gb40017))) (fun _ hk => hk.2) (.int .i64 t40009)) (fun _ hk => hk.2) (.slice Ao19 t40010.length co19)) (fun _ hk => hk.2) (.slice Ao20 t40013.length co20)) (fun _ h_ => h_.1)))); (case side4 => exact (Kd.N_reads' HO40015.out).2.1); (case side5 => refine (Kd.V_reads' (e := 5) (base := w.heap.size) (ok := fun k_ => ((((some k_ ≠ (.slice Ao14 t40002.length co14 : Value).ownBlock ∧ k_ ≠ gb40001) ∧ some k_ ≠ (.slice Ao19 t40010.length co19 : Value).ownBlock) ∧ some k_ ≠ (.slice Ao20 t40013.length co20 : Value).ownBlock) ∧ k_ ≠ gb40017)) (n := t40005.length) (c := co21) ?_).2.2; exact (vz (Kd.V_mono (Kd.V_far (p := ⟨gb40017, 2, none⟩) (Kd.V_far (p := ⟨gb40017, 1, none⟩) (Kd.V_far (p := ⟨gb40017, 0, none⟩) (Kd.V_mono HO40007.out (fun k_ hk => (⟨hk, hk.2⟩ : _ ∧ k_ ≠ gb40017))) (fun _ hk => hk.2) (.int .i64 t40009)) (fun _ hk => hk.2) (.slice Ao19 t40010.length co19)) (fun _ hk => hk.2) (.slice Ao20 t40013.length co20)) (fun _ h_ => h_.1)))); (case side6 => exact (Kd.V_reads' HO40007.out).2.1); rintro e w22 ⟨v40019, rfl, ho0, hb⟩; refine ⟨_, rfl, ?_⟩; replace HO40007 := am (Kd.V_elder' (vz (Kd.V_mono (Kd.V_far (p := ⟨gb40017, 2, none⟩) (Kd.V_far (p := ⟨gb40017, 1, none⟩) (Kd.V_far (p := ⟨gb40017, 0, none⟩) (Kd.V_mono HO40007.out (fun k_ hk => (⟨hk, hk.2⟩ : _ ∧ k_ ≠ gb40017))) (fun _ hk => hk.2) (.int .i64 t40009)) (fun _ hk => hk.2) (.slice Ao19 t40010.length co19)) (fun _ hk => hk.2) (.slice Ao20 t40013.length co20)) (fun _ h_ => h_.1))) (Kd.S_base ho0) hb); have HO40020 := am (Kd.N_lower (Kd.N_mono (ok' := fun k_ => some k_ ≠ (.slice Ao14 t40002.length co14 : Value).ownBlock ∧ some k_ ≠ (.slice Ao19 t40010.length co19 : Value).ownBlock ∧ some k_ ≠ (.slice Ao20 t40013.length co20 : Value).ownBlock ∧ k_ ≠ gb40001 ∧ k_ ≠ gb40017) (Kd.S_N (Kd.S_bound ho0)) (fun k_ hk_ => ⟨(Kd.fresh' (Kd.N_lt (nz (Kd.N_mono (Kd.N_far (p := ⟨gb40017, 2, none⟩) (Kd.N_far (p := ⟨gb40017, 1, none⟩) (Kd.N_far (p := ⟨gb40017, 0, none⟩) (Kd.N_mono HO40004.out (fun k_ hk => (⟨hk, hk.2⟩ : _ ∧ k_ ≠ gb40017))) (fun _ hk => hk.2) (.int .i64 t40009)) (fun _ hk => hk.2) (.slice Ao19 t40010.length co19)) (fun _ hk => hk.2) (.slice Ao20 t40013.length co20)) (fun _ h_ => h_.1)))) k_ hk_.2.1), (Kd.fresh' (Kd.R_lt (rz (rf3 HO40012.out BK40017.out))) k_ hk_.2.1), (Kd.fresh' (Kd.N_lt (nz (Kd.N_mono (Kd.N_far (p := ⟨gb40017, 2, none⟩) (Kd.N_far (p := ⟨gb40017, 1, none⟩) (Kd.N_far (p := ⟨gb40017, 0, none⟩) (Kd.N_mono HO40015.out (fun k_ hk => (⟨hk, hk.2⟩ : _ ∧ k_ ≠ gb40017))) (fun _ hk => hk.2) (.int .i64 t40009)) (fun _ hk => hk.2) (.slice Ao19 t40010.length co19)) (fun _ hk => hk.2) (.slice Ao20 t40013.length co20)) (fun _ h_ => h_.1)))) k_ hk_.2.1), (Kd.freshB (g := gb40001) (o := .cells #[.int .u8 a1_0, .int .u8 a1_1] 41 (0, 0)) (bf1 NB40001_40017.out BK40001.out) k_ hk_.2.1), (Kd.freshB (g := gb40017) (o := .cells #[.int .i64 t40009, .slice Ao19 t40010.length co19, .slice Ao20 t40013.length co20] 34 (0, 0)) (by (with_reducible repeat (first | refine blk_drewN ?_ _ | refine blk_drew ?_ | refine blk_alloc ?_ _)); refine blk_put (cs := #[.int .i64 t40009, .slice Ao19 t40010.length co19, .slice none 0 0]) ?_ 2 _ rfl; (with_reducible repeat (first | refine blk_drewN ?_ _ | refine blk_drew ?_ | refine blk_alloc ?_ _)); refine blk_put (cs := #[.int .i64 t40009, .slice none 0 0, .slice none 0 0]) ?_ 1 _ rfl; (with_reducible repeat (first | refine blk_drewN ?_ _ | refine blk_drew ?_ | refine blk_alloc ?_ _)); refine blk_put (cs := #[.int .i64 0, .slice none 0 0, .slice none 0 0]) ?_ 0 _ rfl; (with_reducible repeat (first | refine blk_drewN ?_ _ | refine blk_drew ?_ | refine blk_alloc ?_ _)); exact BK40017.out) k_ hk_.2.1)⟩)) (below_size (hz2 HB.out GE40001.out GE40017.out))); replace HO40004 := am (Kd.N_elder' (nz (Kd.N_mono (Kd.N_far (p := ⟨gb40017, 2, none⟩) (Kd.N_far (p := ⟨gb40017, 1, none⟩) (Kd.N_far (p := ⟨gb40017, 0, none⟩) (Kd.N_mono HO40004.out (fun k_ hk => (⟨hk, hk.2⟩ : _ ∧ k_ ≠ gb40017))) (fun _ hk => hk.2) (.int .i64 t40009)) (fun _ hk => hk.2) (.slice Ao19 t40010.length co19)) (fun _ hk => hk.2) (.slice Ao20 t40013.length co20)) (fun _ h_ => h_.1))) (Kd.S_base ho0) hb); replace HO40012 := am (Kd.R_below (rz (rf3 HO40012.out BK40017.out)) hb); replace HO40015 := am (Kd.N_elder' (nz (Kd.N_mono (Kd.N_far (p := ⟨gb40017, 2, none⟩) (Kd.N_far (p := ⟨gb40017, 1, none⟩) (Kd.N_far (p := ⟨gb40017, 0, none⟩) (Kd.N_mono HO40015.out (fun k_ hk => (⟨hk, hk.2⟩ : _ ∧ k_ ≠ gb40017))) (fun _ hk => hk.2) (.int .i64 t40009)) (fun _ hk => hk.2) (.slice Ao19 t40010.length co19)) (fun _ hk => hk.2) (.slice Ao20 t40013.length co20)) (fun _ h_ => h_.1))) (Kd.S_base ho0) hb); replace BK40001 := am (blk_below (bf1 NB40001_40017.out BK40001.out) hb); replace BK40017 := am (blk_below (g := gb40017) (o := .cells #[.int .i64 t40009, .slice Ao19 t40010.length co19, .slice Ao20 t40013.length co20] 34 (0, 0)) (by (with_reducible repeat (first | refine blk_drewN ?_ _ | refine blk_drew ?_ | refine blk_alloc ?_ _)); refine blk_put (cs := #[.int .i64 t40009, .slice Ao19 t40010.length co19, .slice none 0 0]) ?_ 2 _ rfl; (with_reducible repeat (first | refine blk_drewN ?_ _ | refine blk_drew ?_ | refine blk_alloc ?_ _)); refine blk_put (cs := #[.int .i64 t40009, .slice none 0 0, .slice none 0 0]) ?_ 1 _ rfl; (with_reducible repeat (first | refine blk_drewN ?_ _ | refine blk_drew ?_ | refine blk_alloc ?_ _)); refine blk_put (cs := #[.int .i64 0, .slice none 0 0, .slice none 0 0]) ?_ 0 _ rfl; (with_reducible repeat (first | refine blk_drewN ?_ _ | refine blk_drew ?_ | refine blk_alloc ?_ _)); exact BK40017.out) hb); replace HB := am (below_step (hz2 HB.out GE40001.out GE40017.out) hb); (try clear hb); (try clear hb2); (try clear hk); (try clear hi); (try clear ho0); obtain ⟨Ao23, co23, eo23⟩ := Kd.N_slice HO40020.out; subst eo23))
   go_loopg [55] k (fun kq v55 w' => ∃ (x55_1 : Int) (x40018000_1 : Int) (x40018001_1 : List Int) (x40018002_1 : List (S25)) (u40018001 : Value) (u40018002 : Value), v55 = .int .i64 x55_1 ∧ Aside0 (examboardlaw53_UploadRest.l0 kq t40005 t40018 (t40018.length : Int) x55_1 x40018000_1 x40018001_1 x40018002_1 = some r) ∧ Aside0 (kq ≤ k) ∧ Aside0 (Kd.V (Kd.int .u8) 5 w' w.heap.size (fun k_ => some k_ ≠ ((.slice Ao23 t40018.length co23) : Value).ownBlock ∧ some k_ ≠ (u40018001 : Value).ownBlock ∧ some k_ ≠ (u40018002 : Value).ownBlock ∧ k_ ≠ gb40001 ∧ k_ ≠ gb40017) (.slice Ao21 t40005.length co21) t40005) ∧ Aside0 (Kd.N k25 25 w' w.heap.size (fun k_ => some k_ ≠ (u40018001 : Value).ownBlock ∧ some k_ ≠ (u40018002 : Value).ownBlock ∧ k_ ≠ gb40001 ∧ k_ ≠ gb40017) (.slice Ao23 t40018.length co23) t40018) ∧ Aside0 (Kd.R (Kd.int .u8) 5 w' w.heap.size (fun _ => True) u40018001 x40018001_1) ∧ Aside0 (Kd.N k25 25 w' w.heap.size (fun k_ => some k_ ≠ ((.slice Ao23 t40018.length co23) : Value).ownBlock ∧ some k_ ≠ (u40018001 : Value).ownBlock ∧ k_ ≠ gb40001 ∧ k_ ≠ gb40017) u40018002 x40018002_1) ∧ Aside0 (w'.heap[gb40001]? = some (.cells #[.int .u8 a1_0, .int .u8 a1_1] 41 (0, 0))) ∧ Aside0 (w'.heap[gb40017]? = some (.cells #[.int .i64 x40018000_1, u40018001, u40018002] 34 (0, 0))) ∧ Aside0 (Below w.heap.size w w'))
   case atStart => exact ⟨(0), (t40009), (t40010), (t40013), (.slice Ao19 t40010.length co19), (.slice Ao20 t40013.length co20), (by first | rfl | (simp; done) | (simp [*]; done)), H', ⟨Nat.le_refl _⟩, ⟨by (with_reducible repeat (first | apply Kd.V_alloc | apply Kd.V_drewN | apply Kd.V_drew)); exact Kd.V_mono HO40007.out (fun _ hk => ⟨hk.2, ⟨hk.1.1.1.2, ⟨hk.1.1.2, ⟨hk.1.1.1.1.2, hk.1.2⟩⟩⟩⟩)⟩, ⟨by (with_reducible repeat (first | apply Kd.N_alloc | apply Kd.N_drewN | apply Kd.N_drew)); exact Kd.N_mono HO40020.out (fun _ hk => ⟨hk.2.1, ⟨hk.2.2.1, ⟨hk.2.2.2.1, hk.2.2.2.2⟩⟩⟩)⟩, ⟨by (with_reducible repeat (first | apply Kd.R_alloc | apply Kd.R_drewN | apply Kd.R_drew)); exact HO40012.out⟩, ⟨by (with_reducible repeat (first | apply Kd.N_alloc | apply Kd.N_drewN | apply Kd.N_drew)); exact Kd.N_mono HO40015.out (fun _ hk => ⟨hk.2, ⟨hk.1.1.1, ⟨hk.1.1.2.2, hk.1.2⟩⟩⟩)⟩, ⟨by (with_reducible repeat (first | refine blk_drewN ?_ _ | refine blk_drew ?_ | refine blk_alloc ?_ _)); exact BK40001.out⟩, ⟨by (with_reducible repeat (first | refine blk_drewN ?_ _ | refine blk_drew ?_ | refine blk_alloc ?_ _)); exact BK40017.out⟩, ⟨hz2 HB.out GE40001.out GE40017.out⟩⟩
   case round =>
    clear H'
    try clear c1
    try clear c2
    try clear p2
    try clear p6
    try clear c7
    try clear c8
    try clear c10
    try clear c10b0
    try clear c10b1
    try clear c17
    try clear c19
    try clear c23
    try clear hcz12_0
    try clear hcz12_1
    try clear hcz18_0
    try clear hcz18_1
    try clear hcz18_2
    try clear hfz12_0
    try clear hfz12_1
    try clear hfz18_0
    try clear hfz18_1
    try clear hfz18_2
    obtain ⟨x55_1, x40018000_1, x40018001_1, x40018002_1, u40018001, u40018002, rfl, HA, HK1, HO_10, HO_53, HO_40018001, HO_40018002, BK40001, BK40017, HB⟩ := hrel
    cases gk with
    | zero => exact absurd HA.out (by simp [examboardlaw53_UploadRest.l0])
    | succ k1 =>
     have H := HA.out
     clear HA
     simp only [examboardlaw53_UploadRest.l0] at H
     by_cases c24 : x55_1 < (t40018.length : Int)
     ·
      rw [if_pos c24] at H
      have c24b0 : decide (x55_1 < (t40018.length : Int)) = true := decide_eq_true c24
      clear c24
      replace H := it_ H
      obtain ⟨c25, H⟩ := H
      have c25b0 : decide (0 ≤ x55_1) = true := decide_eq_true c25
      clear c25
      replace H := it_ H
      obtain ⟨c26, H⟩ := H
      have c26b0 : decide (x55_1 < (t40018.length : Int)) = true := decide_eq_true c26
      clear c26
      replace H := Option.bind_eq_some_iff.mp H
      obtain ⟨⟨t40030, t40031, t40034, t40037⟩, A270, H⟩ := H
      replace H : (if t40037 = 0 then ((upload_Need.f t40030 t40031 t40034).bind fun t40039 => ((upload_Need.f x40018000_1 x40018001_1 x40018002_1).bind fun t40040 => (if t40039 < t40040 then (none) else (examboardlaw53_UploadRest.l0 k1 t40005 t40018 (t40018.length : Int) (wrap64 (x55_1 + 1)) t40030 t40031 t40034)))) else (none)) = some r := H
      have A27 := am A270
      clear A270
      replace H := it_ H
      obtain ⟨c28, H⟩ := H
      have c28b0 : (t40037 == 0) = true := beq_iff_eq.mpr c28
      have c28b1 : (t40037 != 0) = false := bne_eq_false_iff_eq.mpr c28
      clear c28
      replace H := Option.bind_eq_some_iff.mp H
      obtain ⟨t40039, A290, H⟩ := H
      replace H : ((upload_Need.f x40018000_1 x40018001_1 x40018002_1).bind fun t40040 => (if t40039 < t40040 then (none) else (examboardlaw53_UploadRest.l0 k1 t40005 t40018 (t40018.length : Int) (wrap64 (x55_1 + 1)) t40030 t40031 t40034))) = some r := H
      have A29 := am A290
      clear A290
      replace H := Option.bind_eq_some_iff.mp H
      obtain ⟨t40040, A300, H⟩ := H
      replace H : (if t40039 < t40040 then (none) else (examboardlaw53_UploadRest.l0 k1 t40005 t40018 (t40018.length : Int) (wrap64 (x55_1 + 1)) t40030 t40031 t40034)) = some r := H
      have A30 := am A300
      clear A300
      replace H := ie_ H
      obtain ⟨c31, H⟩ := H
      have c31b0 : decide (t40039 < t40040) = false := decide_eq_false c31
      clear c31
      have H' := am H
      clear H
      have p40028 : 0 ≤ (x55_1 : Int) := of_decide_eq_true az
      have q40028 : x55_1 < (t40018.length : Int) := of_decide_eq_true az
      obtain ⟨ad40028, A40028_2, c40028_2, e40028, hx40028_0, hx40028_1, hx40028_2, hx40028_3, hl40028_2, hi40028_2⟩ := at_T25 (Kd.N_reads' HO_53.out).2.2 x55_1 p40028 q40028
      cases e40028
      obtain ⟨ce40028, hce40028, hMe40028, hcc40028⟩ := Kd.N_get HO_53.out z25 x55_1 p40028 (by first | exact q40028 | exact of_decide_eq_true az | (have e_ := (Kd.N_reads' HO_53.out).1; omega))
      obtain ⟨ua40028_2, uc40028_2, rfl, ul40028_2, ge40028_2⟩ := k25_openF hMe40028
      have hv40028_2 := hcc40028 2 _ rfl
      rw [add_field _ _ 2 (by omega)] at hv40028_2
      replace hv40028_2 := Option.some.inj (hv40028_2.symm.trans hx40028_2)
      injection hv40028_2 with hva_ hvn_ hvc_
      rw [hva_] at ge40028_2
      rw [hvc_] at ul40028_2
      have HL40028_2 := am (show Kd.V (Kd.int .u8) 5 _ w.heap.size _ _ ((rd_T25 t40018 x55_1).f2) from Kd.V_mk ul40028_2 ge40028_2)
      clear hva_ hvn_ hvc_ ge40028_2 ul40028_2
      clear hcc40028 hce40028
      have HR40028_2 := am hi40028_2
      have HC40028_2 := am hl40028_2
      clear hi40028_2 hl40028_2
      replace p40028 := eq_true p40028
      replace q40028 := eq_true q40028
      try go_wp2_with (first | ((with_reducible refine gate_dst (N := 17) rfl ?_); (try (refine gate_guard (by rfl) ?_; dsimp only)); refine box_event ?hg (N := 17) ?hd (cs := #[.int .i64 0, .int .i64 0, .slice none 0 0, .int .u64 0]) (t := 25) ?hr ?_; (case hd => rfl); (case hg => rfl); (case hr => exact gz); intro gb40029 hg w32 hbox hb; replace HO_10 := am (Kd.V_below (Kd.V_elderB (vz HO_10.out) gb40029 (Nat.le_of_eq hg.symm)) hb); replace HO_53 := am (Kd.N_below (Kd.N_elderB (nz HO_53.out) gb40029 (Nat.le_of_eq hg.symm)) hb); replace HO_40018001 := am (Kd.R_below (rz HO_40018001.out) hb); replace HO_40018002 := am (Kd.N_below (Kd.N_elderB (nz HO_40018002.out) gb40029 (Nat.le_of_eq hg.symm)) hb); replace HL40028_2 := am (Kd.V_below (Kd.V_elderB (vz HL40028_2.out) gb40029 (Nat.le_of_eq hg.symm)) hb); replace HR40028_2 := am (Kd.C_below (cz HR40028_2.out) hb); have BK40029 := am (hbox); have GW40029 := am ((bs hg (hz2 HB.out GE40001.out GE40017.out) : w.heap.size ≤ gb40029)); have GE40029 := am ((bs hg (hz2 HB.out GE40001.out GE40017.out) : w.heap.size ≤ gb40029)); replace HB := am (below_step (hz2 HB.out GE40001.out GE40017.out) hb); have NB40001_40029 := am ((nl hg (bz BK40001.out) : gb40001 ≠ gb40029)); have NB40029_40001 := am ((ng hg (bz BK40001.out) : gb40029 ≠ gb40001)); replace BK40001 := am (blk_below (bz BK40001.out) hb); have NB40017_40029 := am ((nl hg (bz BK40017.out) : gb40017 ≠ gb40029)); have NB40029_40017 := am ((ng hg (bz BK40017.out) : gb40029 ≠ gb40017)); replace BK40017 := am (blk_below (bz BK40017.out) hb); clear hb hbox hg; have hnb33 := NB40029_40001.out; have hnc33 := NB40001_40029.out; have hnb34 := NB40029_40017.out; have hnc34 := NB40017_40029.out; obtain ⟨hcz35_0, hcz35_1, hcz35_2, hcz35_3⟩ := cs4 BK40029.out; obtain ⟨hfz35_0, hfz35_1, hfz35_2, hfz35_3⟩ := fs4 BK40029.out; have hnb36 := NB40017_40001.out; have hnc36 := NB40001_40017.out; obtain ⟨hcz37_0, hcz37_1, hcz37_2⟩ := cs3 BK40017.out; obtain ⟨hfz37_0, hfz37_1, hfz37_2⟩ := fs3 BK40017.out; obtain ⟨Ao38, co38, eo38⟩ := Kd.R_slice HO_40018001.out; subst eo38; obtain ⟨Ao39, co39, eo39⟩ := Kd.N_slice HO_40018002.out; subst eo39) | ((with_reducible refine gate_callee (f := 20) rfl ?_); refine goesL_ (some 62) rfl rfl Try.func20 (by kernel_rfl) rfl #[.agg #[.int .i64 x40018000_1, .slice Ao38 x40018001_1.length co38, .slice Ao39 x40018002_1.length co39], .agg #[.int .i64 ((rd_T25 t40018 x55_1).f0), .int .i64 ((rd_T25 t40018 x55_1).f1), .slice A40028_2 ((rd_T25 t40018 x55_1).f2).length c40028_2, .int .u64 ((rd_T25 t40018 x55_1).f3)]] rfl lz ?_; (with_reducible refine (upload_Receive.calls k1 x40018000_1 _ _ x40018001_1 _ _ x40018002_1 ((rd_T25 t40018 x55_1).f0) ((rd_T25 t40018 x55_1).f1) _ _ ((rd_T25 t40018 x55_1).f2) ((rd_T25 t40018 x55_1).f3) t40030 t40031 t40034 t40037 _ ?side1 ?side2 ?side3 ?side4 ?side5 ?side6 A27.out).mono ?_); (case side1 => refine (Kd.R_reads' (e := 5) (base := w.heap.size) (ok := fun k_ => True) (n := x40018001_1.length) (c := co38) ?_).2.2; exact (rz (rf4 HO_40018001.out BK40029.out))); (case side2 => exact (Kd.R_reads' HO_40018001.out).2.1); (case side3 => refine (Kd.N_reads' (e := 25) (base := w.heap.size) (ok := fun k_ => ((some k_ ≠ (.slice (some ad40028) t40018.length co23 : Value).ownBlock ∧ (some k_ ≠ (.slice Ao38 x40018001_1.length co38 : Value).ownBlock ∧ (k_ ≠ gb40001 ∧ k_ ≠ gb40017))) ∧ k_ ≠ gb40029)) (n := x40018002_1.length) (c := co39) ?_).2.2; exact (nz (Kd.N_mono (Kd.N_far (p := ⟨gb40029, 3, none⟩) (Kd.N_far (p := ⟨gb40029, 2, none⟩) (Kd.N_far (p := ⟨gb40029, 1, none⟩) (Kd.N_far (p := ⟨gb40029, 0, none⟩) (Kd.N_mono HO_40018002.out (fun k_ hk => (⟨hk, hk.2⟩ : _ ∧ k_ ≠ gb40029))) (fun _ hk => hk.2) (.int .i64 ((rd_T25 t40018 x55_1).f0))) (fun _ hk => hk.2) (.int .i64 ((rd_T25 t40018 x55_1).f1))) (fun _ hk => hk.2) (.slice A40028_2 ((rd_T25 t40018 x55_1).f2).length c40028_2)) (fun _ hk => hk.2) (.int .u64 ((rd_T25 t40018 x55_1).f3))) (fun _ h_ => h_.1)))); (case side4 => exact (Kd.N_reads' HO_40018002.out).2.1); (case side5 => repeat (first | exact ((Kd.V_reads' (vz (Kd.V_mono (Kd.V_far (p := ⟨gb40029, 3, none⟩) (Kd.V_far (p := ⟨gb40029, 2, none⟩) (Kd.V_far (p := ⟨gb40029, 1, none⟩) (Kd.V_far (p := ⟨gb40029, 0, none⟩) (Kd.V_mono HL40028_2.out (fun k_ hk => (⟨hk, hk.2⟩ : _ ∧ k_ ≠ gb40029))) (fun _ hk => hk.2) (.int .i64 ((rd_T25 t40018 x55_1).f0))) (fun _ hk => hk.2) (.int .i64 ((rd_T25 t40018 x55_1).f1))) (fun _ hk => hk.2) (.slice A40028_2 ((rd_T25 t40018 x55_1).f2).length c40028_2)) (fun _ hk => hk.2) (.int .u64 ((rd_T25 t40018 x55_1).f3))) (fun _ h_ => h_.1)))).2.2) | (with_reducible refine Kd.C_alloc ?_ _) | (with_reducible refine Kd.C_drewN ?_ _) | (with_reducible refine Kd.C_drew ?_))); (case side6 => exact HC40028_2.out); rintro e w40 ⟨v40032, v40035, rfl, ho0, ho1, hb⟩; refine ⟨_, rfl, ?_⟩; replace HO_10 := am (Kd.V_mono (Kd.V_told (Kd.V_told (Kd.V_old (vz (Kd.V_mono (Kd.V_far (p := ⟨gb40029, 3, none⟩) (Kd.V_far (p := ⟨gb40029, 2, none⟩) (Kd.V_far (p := ⟨gb40029, 1, none⟩) (Kd.V_far (p := ⟨gb40029, 0, none⟩) (Kd.V_mono HO_10.out (fun k_ hk => (⟨hk, hk.2⟩ : _ ∧ k_ ≠ gb40029))) (fun _ hk => hk.2) (.int .i64 ((rd_T25 t40018 x55_1).f0))) (fun _ hk => hk.2) (.int .i64 ((rd_T25 t40018 x55_1).f1))) (fun _ hk => hk.2) (.slice A40028_2 ((rd_T25 t40018 x55_1).f2).length c40028_2)) (fun _ hk => hk.2) (.int .u64 ((rd_T25 t40018 x55_1).f3))) (fun _ h_ => h_.1))) hb) (Kd.R_base ho0)) (Kd.S_base ho1)) (fun _ h_ => h_.1)); have HO40033 := am (Kd.R_lower (Kd.R_new' ho0 (Kd.R_lt (rz (rf4 HO_40018001.out BK40029.out)))) (below_size (hz3 HB.out GE40001.out GE40017.out GE40029.out))); have HO40036 := am (Kd.N_lower (Kd.N_mono (ok' := fun k_ => some k_ ≠ (v40032 : Value).ownBlock ∧ some k_ ≠ (.slice (some ad40028) t40018.length co23 : Value).ownBlock ∧ some k_ ≠ (.slice Ao38 x40018001_1.length co38 : Value).ownBlock ∧ some k_ ≠ (.slice Ao39 x40018002_1.length co39 : Value).ownBlock ∧ k_ ≠ gb40001 ∧ k_ ≠ gb40017 ∧ k_ ≠ gb40029) (Kd.S_N (Kd.S_bound ho1)) (fun k_ hk_ => ⟨hk_.1, (Kd.fresh' (Kd.N_lt (nz (Kd.N_mono (Kd.N_far (p := ⟨gb40029, 3, none⟩) (Kd.N_far (p := ⟨gb40029, 2, none⟩) (Kd.N_far (p := ⟨gb40029, 1, none⟩) (Kd.N_far (p := ⟨gb40029, 0, none⟩) (Kd.N_mono HO_53.out (fun k_ hk => (⟨hk, hk.2⟩ : _ ∧ k_ ≠ gb40029))) (fun _ hk => hk.2) (.int .i64 ((rd_T25 t40018 x55_1).f0))) (fun _ hk => hk.2) (.int .i64 ((rd_T25 t40018 x55_1).f1))) (fun _ hk => hk.2) (.slice A40028_2 ((rd_T25 t40018 x55_1).f2).length c40028_2)) (fun _ hk => hk.2) (.int .u64 ((rd_T25 t40018 x55_1).f3))) (fun _ h_ => h_.1)))) k_ hk_.2.1), (Kd.fresh' (Kd.R_lt (rz (rf4 HO_40018001.out BK40029.out))) k_ hk_.2.1), (Kd.fresh' (Kd.N_lt (nz (Kd.N_mono (Kd.N_far (p := ⟨gb40029, 3, none⟩) (Kd.N_far (p := ⟨gb40029, 2, none⟩) (Kd.N_far (p := ⟨gb40029, 1, none⟩) (Kd.N_far (p := ⟨gb40029, 0, none⟩) (Kd.N_mono HO_40018002.out (fun k_ hk => (⟨hk, hk.2⟩ : _ ∧ k_ ≠ gb40029))) (fun _ hk => hk.2) (.int .i64 ((rd_T25 t40018 x55_1).f0))) (fun _ hk => hk.2) (.int .i64 ((rd_T25 t40018 x55_1).f1))) (fun _ hk => hk.2) (.slice A40028_2 ((rd_T25 t40018 x55_1).f2).length c40028_2)) (fun _ hk => hk.2) (.int .u64 ((rd_T25 t40018 x55_1).f3))) (fun _ h_ => h_.1)))) k_ hk_.2.1), (Kd.freshB (g := gb40001) (o := .cells #[.int .u8 a1_0, .int .u8 a1_1] 41 (0, 0)) (bf1 NB40001_40029.out BK40001.out) k_ hk_.2.1), (Kd.freshB (g := gb40017) (o := .cells #[.int .i64 x40018000_1, .slice Ao38 x40018001_1.length co38, .slice Ao39 x40018002_1.length co39] 34 (0, 0)) (bf1 NB40017_40029.out BK40017.out) k_ hk_.2.1), (Kd.freshB (g := gb40029) (o := .cells #[.int .i64 ((rd_T25 t40018 x55_1).f0), .int .i64 ((rd_T25 t40018 x55_1).f1), .slice A40028_2 ((rd_T25 t40018 x55_1).f2).length c40028_2, .int .u64 ((rd_T25 t40018 x55_1).f3)] 25 (0, 0)) (by (with_reducible repeat (first | refine blk_drewN ?_ _ | refine blk_drew ?_ | refine blk_alloc ?_ _)); refine blk_put (cs := #[.int .i64 ((rd_T25 t40018 x55_1).f0), .int .i64 ((rd_T25 t40018 x55_1).f1), .slice A40028_2 ((rd_T25 t40018 x55_1).f2).length c40028_2, .int .u64 0]) ?_ 3 _ rfl; (with_reducible repeat (first | refine blk_drewN ?_ _ | refine blk_drew ?_ | refine blk_alloc ?_ _)); refine blk_put (cs := #[.int .i64 ((rd_T25 t40018 x55_1).f0), .int .i64 ((rd_T25 t40018 x55_1).f1), .slice none 0 0, .int .u64 0]) ?_ 2 _ rfl; (with_reducible repeat (first | refine blk_drewN ?_ _ | refine blk_drew ?_ | refine blk_alloc ?_ _)); refine blk_put (cs := #[.int .i64 ((rd_T25 t40018 x55_1).f0), .int .i64 0, .slice none 0 0, .int .u64 0]) ?_ 1 _ rfl; (with_reducible repeat (first | refine blk_drewN ?_ _ | refine blk_drew ?_ | refine blk_alloc ?_ _)); refine blk_put (cs := #[.int .i64 0, .int .i64 0, .slice none 0 0, .int .u64 0]) ?_ 0 _ rfl; (with_reducible repeat (first | refine blk_drewN ?_ _ | refine blk_drew ?_ | refine blk_alloc ?_ _)); exact BK40029.out) k_ hk_.2.1)⟩)) (below_size (hz3 HB.out GE40001.out GE40017.out GE40029.out))); replace HO_53 := am (Kd.N_mono (Kd.N_told (Kd.N_told (Kd.N_old (nz (Kd.N_mono (Kd.N_far (p := ⟨gb40029, 3, none⟩) (Kd.N_far (p := ⟨gb40029, 2, none⟩) (Kd.N_far (p := ⟨gb40029, 1, none⟩) (Kd.N_far (p := ⟨gb40029, 0, none⟩) (Kd.N_mono HO_53.out (fun k_ hk => (⟨hk, hk.2⟩ : _ ∧ k_ ≠ gb40029))) (fun _ hk => hk.2) (.int .i64 ((rd_T25 t40018 x55_1).f0))) (fun _ hk => hk.2) (.int .i64 ((rd_T25 t40018 x55_1).f1))) (fun _ hk => hk.2) (.slice A40028_2 ((rd_T25 t40018 x55_1).f2).length c40028_2)) (fun _ hk => hk.2) (.int .u64 ((rd_T25 t40018 x55_1).f3))) (fun _ h_ => h_.1))) hb) (Kd.R_base ho0)) (Kd.S_base ho1)) (fun _ h_ => h_.1)); replace HO_40018001 := am (Kd.R_elder' (rz (rf4 HO_40018001.out BK40029.out)) (Kd.R_base ho0) hb); replace HO_40018002 := am (Kd.N_mono (Kd.N_told (Kd.N_told (Kd.N_old (nz (Kd.N_mono (Kd.N_far (p := ⟨gb40029, 3, none⟩) (Kd.N_far (p := ⟨gb40029, 2, none⟩) (Kd.N_far (p := ⟨gb40029, 1, none⟩) (Kd.N_far (p := ⟨gb40029, 0, none⟩) (Kd.N_mono HO_40018002.out (fun k_ hk => (⟨hk, hk.2⟩ : _ ∧ k_ ≠ gb40029))) (fun _ hk => hk.2) (.int .i64 ((rd_T25 t40018 x55_1).f0))) (fun _ hk => hk.2) (.int .i64 ((rd_T25 t40018 x55_1).f1))) (fun _ hk => hk.2) (.slice A40028_2 ((rd_T25 t40018 x55_1).f2).length c40028_2)) (fun _ hk => hk.2) (.int .u64 ((rd_T25 t40018 x55_1).f3))) (fun _ h_ => h_.1))) hb) (Kd.R_base ho0)) (Kd.S_base ho1)) (fun _ h_ => h_.1)); replace BK40001 := am (blk_below (bf1 NB40001_40029.out BK40001.out) hb); replace BK40017 := am (blk_below (bf1 NB40017_40029.out BK40017.out) hb); replace HR40028_2 := am (Kd.C_below ((Kd.V_reads' (vz (Kd.V_mono (Kd.V_far (p := ⟨gb40029, 3, none⟩) (Kd.V_far (p := ⟨gb40029, 2, none⟩) (Kd.V_far (p := ⟨gb40029, 1, none⟩) (Kd.V_far (p := ⟨gb40029, 0, none⟩) (Kd.V_mono HL40028_2.out (fun k_ hk => (⟨hk, hk.2⟩ : _ ∧ k_ ≠ gb40029))) (fun _ hk => hk.2) (.int .i64 ((rd_T25 t40018 x55_1).f0))) (fun _ hk => hk.2) (.int .i64 ((rd_T25 t40018 x55_1).f1))) (fun _ hk => hk.2) (.slice A40028_2 ((rd_T25 t40018 x55_1).f2).length c40028_2)) (fun _ hk => hk.2) (.int .u64 ((rd_T25 t40018 x55_1).f3))) (fun _ h_ => h_.1)))).2.2) hb); replace HL40028_2 := am (Kd.V_mono (Kd.V_told (Kd.V_told (Kd.V_old (vz (Kd.V_mono (Kd.V_far (p := ⟨gb40029, 3, none⟩) (Kd.V_far (p := ⟨gb40029, 2, none⟩) (Kd.V_far (p := ⟨gb40029, 1, none⟩) (Kd.V_far (p := ⟨gb40029, 0, none⟩) (Kd.V_mono HL40028_2.out (fun k_ hk => (⟨hk, hk.2⟩ : _ ∧ k_ ≠ gb40029))) (fun _ hk => hk.2) (.int .i64 ((rd_T25 t40018 x55_1).f0))) (fun _ hk => hk.2) (.int .i64 ((rd_T25 t40018 x55_1).f1))) (fun _ hk => hk.2) (.slice A40028_2 ((rd_T25 t40018 x55_1).f2).length c40028_2)) (fun _ hk => hk.2) (.int .u64 ((rd_T25 t40018 x55_1).f3))) (fun _ h_ => h_.1))) hb) (Kd.R_base ho0)) (Kd.S_base ho1)) (fun _ h_ => h_.1)); replace BK40029 := am (blk_below (g := gb40029) (o := .cells #[.int .i64 ((rd_T25 t40018 x55_1).f0), .int .i64 ((rd_T25 t40018 x55_1).f1), .slice A40028_2 ((rd_T25 t40018 x55_1).f2).length c40028_2, .int .u64 ((rd_T25 t40018 x55_1).f3)] 25 (0, 0)) (by (with_reducible repeat (first | refine blk_drewN ?_ _ | refine blk_drew ?_ | refine blk_alloc ?_ _)); refine blk_put (cs := #[.int .i64 ((rd_T25 t40018 x55_1).f0), .int .i64 ((rd_T25 t40018 x55_1).f1), .slice A40028_2 ((rd_T25 t40018 x55_1).f2).length c40028_2, .int .u64 0]) ?_ 3 _ rfl; (with_reducible repeat (first | refine blk_drewN ?_ _ | refine blk_drew ?_ | refine blk_alloc ?_ _)); refine blk_put (cs := #[.int .i64 ((rd_T25 t40018 x55_1).f0), .int .i64 ((rd_T25 t40018 x55_1).f1), .slice none 0 0, .int .u64 0]) ?_ 2 _ rfl; (with_reducible repeat (first | refine blk_drewN ?_ _ | refine blk_drew ?_ | refine blk_alloc ?_ _)); refine blk_put (cs := #[.int .i64 ((rd_T25 t40018 x55_1).f0), .int .i64 0, .slice none 0 0, .int .u64 0]) ?_ 1 _ rfl; (with_reducible repeat (first | refine blk_drewN ?_ _ | refine blk_drew ?_ | refine blk_alloc ?_ _)); refine blk_put (cs := #[.int .i64 0, .int .i64 0, .slice none 0 0, .int .u64 0]) ?_ 0 _ rfl; (with_reducible repeat (first | refine blk_drewN ?_ _ | refine blk_drew ?_ | refine blk_alloc ?_ _)); exact BK40029.out) hb); replace HB := am (below_step (hz3 HB.out GE40001.out GE40017.out GE40029.out) hb); (try clear hb); (try clear hb2); (try clear hk); (try clear hi); (try clear ho0); (try clear ho1)) | ((with_reducible refine gate_dst (N := 18) rfl ?_); (try (refine gate_guard (by rfl) ?_; dsimp only)); refine box_event ?hg (N := 18) ?hd (cs := #[.int .i64 0, .slice none 0 0, .slice none 0 0]) (t := 34) ?hr ?_; (case hd => rfl); (case hg => rfl); (case hr => exact gz); intro gb40038 hg w41 hbox hb; replace HO_10 := am (Kd.V_below (Kd.V_elderB (vz HO_10.out) gb40038 (Nat.le_of_eq hg.symm)) hb); replace HO_53 := am (Kd.N_below (Kd.N_elderB (nz HO_53.out) gb40038 (Nat.le_of_eq hg.symm)) hb); replace HO_40018001 := am (Kd.R_below (rz HO_40018001.out) hb); replace HO_40018002 := am (Kd.N_below (Kd.N_elderB (nz HO_40018002.out) gb40038 (Nat.le_of_eq hg.symm)) hb); replace HL40028_2 := am (Kd.V_below (Kd.V_elderB (vz HL40028_2.out) gb40038 (Nat.le_of_eq hg.symm)) hb); replace HO40033 := am (Kd.R_below (rz HO40033.out) hb); replace HO40036 := am (Kd.N_below (Kd.N_elderB (nz HO40036.out) gb40038 (Nat.le_of_eq hg.symm)) hb); replace HR40028_2 := am (Kd.C_below (cz HR40028_2.out) hb); have BK40038 := am (hbox); have GW40038 := am ((bs hg (hz3 HB.out GE40001.out GE40017.out GE40029.out) : w.heap.size ≤ gb40038)); have GE40038 := am ((bs hg (hz3 HB.out GE40001.out GE40017.out GE40029.out) : w.heap.size ≤ gb40038)); replace HB := am (below_step (hz3 HB.out GE40001.out GE40017.out GE40029.out) hb); have NB40001_40038 := am ((nl hg (bz BK40001.out) : gb40001 ≠ gb40038)); have NB40038_40001 := am ((ng hg (bz BK40001.out) : gb40038 ≠ gb40001)); replace BK40001 := am (blk_below (bz BK40001.out) hb); have NB40017_40038 := am ((nl hg (bz BK40017.out) : gb40017 ≠ gb40038)); have NB40038_40017 := am ((ng hg (bz BK40017.out) : gb40038 ≠ gb40017)); replace BK40017 := am (blk_below (bz BK40017.out) hb); have NB40029_40038 := am ((nl hg (bz BK40029.out) : gb40029 ≠ gb40038)); have NB40038_40029 := am ((ng hg (bz BK40029.out) : gb40038 ≠ gb40029)); replace BK40029 := am (blk_below (bz BK40029.out) hb); clear hb hbox hg; have hnb42 := NB40038_40001.out; have hnc42 := NB40001_40038.out; have hnb43 := NB40038_40017.out; have hnc43 := NB40017_40038.out; have hnb44 := NB40038_40029.out; have hnc44 := NB40029_40038.out; obtain ⟨hcz45_0, hcz45_1, hcz45_2⟩ := cs3 BK40038.out; obtain ⟨hfz45_0, hfz45_1, hfz45_2⟩ := fs3 BK40038.out; obtain ⟨Ao46, co46, eo46⟩ := Kd.R_slice HO40033.out; subst eo46; obtain ⟨Ao47, co47, eo47⟩ := Kd.N_slice HO40036.out; subst eo47))
      have n0_ : Aside0 (Kd.V (Kd.int .u8) 5 (((w41.setCell ⟨gb40038, 0, none⟩ (.int .i64 t40030)).setCell ⟨gb40038, 1, none⟩ (.slice Ao46 t40031.length co46)).setCell ⟨gb40038, 2, none⟩ (.slice Ao47 t40034.length co47)) w.heap.size (fun k_ => some k_ ≠ (.slice (some ad40028) t40018.length co23 : Value).ownBlock ∧ some k_ ≠ (.slice Ao38 x40018001_1.length co38 : Value).ownBlock ∧ some k_ ≠ (.slice Ao39 x40018002_1.length co39 : Value).ownBlock ∧ some k_ ≠ (.slice Ao46 t40031.length co46 : Value).ownBlock ∧ some k_ ≠ (.slice Ao47 t40034.length co47 : Value).ownBlock ∧ k_ ≠ gb40001 ∧ k_ ≠ gb40017 ∧ k_ ≠ gb40029 ∧ k_ ≠ gb40038) (.slice Ao21 t40005.length co21) t40005) := ⟨by (with_reducible repeat (first | apply Kd.V_alloc | apply Kd.V_drewN | apply Kd.V_drew)); exact Kd.V_mono (Kd.V_far (p := ⟨gb40038, 2, none⟩) (Kd.V_far (p := ⟨gb40038, 1, none⟩) (Kd.V_far (p := ⟨gb40038, 0, none⟩) (Kd.V_mono HO_10.out (fun k_ hk => (⟨hk, hk.2⟩ : _ ∧ k_ ≠ gb40038))) (fun _ hk => hk.2) (.int .i64 t40030)) (fun _ hk => hk.2) (.slice Ao46 t40031.length co46)) (fun _ hk => hk.2) (.slice Ao47 t40034.length co47)) (fun _ hk => ⟨hk.1.1.1.1.1.1, ⟨hk.1.1.1.1.1.2.1, ⟨hk.1.1.1.1.1.2.2.1, ⟨hk.1.1.1.2, ⟨hk.1.1.2, ⟨hk.1.1.1.1.1.2.2.2.1, ⟨hk.1.1.1.1.1.2.2.2.2, ⟨hk.1.1.1.1.2, hk.1.2⟩⟩⟩⟩⟩⟩⟩⟩)⟩
      have n1_ : Aside0 (Kd.N k25 25 (((w41.setCell ⟨gb40038, 0, none⟩ (.int .i64 t40030)).setCell ⟨gb40038, 1, none⟩ (.slice Ao46 t40031.length co46)).setCell ⟨gb40038, 2, none⟩ (.slice Ao47 t40034.length co47)) w.heap.size (fun k_ => some k_ ≠ (.slice Ao38 x40018001_1.length co38 : Value).ownBlock ∧ some k_ ≠ (.slice Ao39 x40018002_1.length co39 : Value).ownBlock ∧ some k_ ≠ (.slice Ao46 t40031.length co46 : Value).ownBlock ∧ some k_ ≠ (.slice Ao47 t40034.length co47 : Value).ownBlock ∧ k_ ≠ gb40001 ∧ k_ ≠ gb40017 ∧ k_ ≠ gb40029 ∧ k_ ≠ gb40038) (.slice (some ad40028) t40018.length co23) t40018) := ⟨by (with_reducible repeat (first | apply Kd.N_alloc | apply Kd.N_drewN | apply Kd.N_drew)); exact Kd.N_mono (Kd.N_far (p := ⟨gb40038, 2, none⟩) (Kd.N_far (p := ⟨gb40038, 1, none⟩) (Kd.N_far (p := ⟨gb40038, 0, none⟩) (Kd.N_mono HO_53.out (fun k_ hk => (⟨hk, hk.2⟩ : _ ∧ k_ ≠ gb40038))) (fun _ hk => hk.2) (.int .i64 t40030)) (fun _ hk => hk.2) (.slice Ao46 t40031.length co46)) (fun _ hk => hk.2) (.slice Ao47 t40034.length co47)) (fun _ hk => ⟨hk.1.1.1.1.1.1, ⟨hk.1.1.1.1.1.2.1, ⟨hk.1.1.1.2, ⟨hk.1.1.2, ⟨hk.1.1.1.1.1.2.2.1, ⟨hk.1.1.1.1.1.2.2.2, ⟨hk.1.1.1.1.2, hk.1.2⟩⟩⟩⟩⟩⟩⟩)⟩
      have n2_ : Aside0 (Kd.R (Kd.int .u8) 5 (((w41.setCell ⟨gb40038, 0, none⟩ (.int .i64 t40030)).setCell ⟨gb40038, 1, none⟩ (.slice Ao46 t40031.length co46)).setCell ⟨gb40038, 2, none⟩ (.slice Ao47 t40034.length co47)) w.heap.size (fun k_ => some k_ ≠ (.slice Ao46 t40031.length co46 : Value).ownBlock) (.slice Ao38 x40018001_1.length co38) x40018001_1) := ⟨by (with_reducible repeat (first | apply Kd.R_alloc | apply Kd.R_drewN | apply Kd.R_drew)); exact Kd.R_mono (rfg3 HO_40018001.out BK40038.out) (fun _ hk => hk.1.2)⟩
      have n3_ : Aside0 (Kd.N k25 25 (((w41.setCell ⟨gb40038, 0, none⟩ (.int .i64 t40030)).setCell ⟨gb40038, 1, none⟩ (.slice Ao46 t40031.length co46)).setCell ⟨gb40038, 2, none⟩ (.slice Ao47 t40034.length co47)) w.heap.size (fun k_ => some k_ ≠ (.slice (some ad40028) t40018.length co23 : Value).ownBlock ∧ some k_ ≠ (.slice Ao38 x40018001_1.length co38 : Value).ownBlock ∧ some k_ ≠ (.slice Ao46 t40031.length co46 : Value).ownBlock ∧ some k_ ≠ (.slice Ao47 t40034.length co47 : Value).ownBlock ∧ k_ ≠ gb40001 ∧ k_ ≠ gb40017 ∧ k_ ≠ gb40029 ∧ k_ ≠ gb40038) (.slice Ao39 x40018002_1.length co39) x40018002_1) := ⟨by (with_reducible repeat (first | apply Kd.N_alloc | apply Kd.N_drewN | apply Kd.N_drew)); exact Kd.N_mono (Kd.N_far (p := ⟨gb40038, 2, none⟩) (Kd.N_far (p := ⟨gb40038, 1, none⟩) (Kd.N_far (p := ⟨gb40038, 0, none⟩) (Kd.N_mono HO_40018002.out (fun k_ hk => (⟨hk, hk.2⟩ : _ ∧ k_ ≠ gb40038))) (fun _ hk => hk.2) (.int .i64 t40030)) (fun _ hk => hk.2) (.slice Ao46 t40031.length co46)) (fun _ hk => hk.2) (.slice Ao47 t40034.length co47)) (fun _ hk => ⟨hk.1.1.1.1.1.1, ⟨hk.1.1.1.1.1.2.1, ⟨hk.1.1.1.2, ⟨hk.1.1.2, ⟨hk.1.1.1.1.1.2.2.1, ⟨hk.1.1.1.1.1.2.2.2, ⟨hk.1.1.1.1.2, hk.1.2⟩⟩⟩⟩⟩⟩⟩)⟩
      have n4_ : Aside0 (Kd.V (Kd.int .u8) 5 (((w41.setCell ⟨gb40038, 0, none⟩ (.int .i64 t40030)).setCell ⟨gb40038, 1, none⟩ (.slice Ao46 t40031.length co46)).setCell ⟨gb40038, 2, none⟩ (.slice Ao47 t40034.length co47)) w.heap.size (fun k_ => some k_ ≠ (.slice (some ad40028) t40018.length co23 : Value).ownBlock ∧ some k_ ≠ (.slice Ao38 x40018001_1.length co38 : Value).ownBlock ∧ some k_ ≠ (.slice Ao39 x40018002_1.length co39 : Value).ownBlock ∧ some k_ ≠ (.slice Ao46 t40031.length co46 : Value).ownBlock ∧ some k_ ≠ (.slice Ao47 t40034.length co47 : Value).ownBlock ∧ k_ ≠ gb40001 ∧ k_ ≠ gb40017 ∧ k_ ≠ gb40029 ∧ k_ ≠ gb40038) (.slice A40028_2 ((rd_T25 t40018 x55_1).f2).length c40028_2) ((rd_T25 t40018 x55_1).f2)) := ⟨by (with_reducible repeat (first | apply Kd.V_alloc | apply Kd.V_drewN | apply Kd.V_drew)); exact Kd.V_mono (Kd.V_far (p := ⟨gb40038, 2, none⟩) (Kd.V_far (p := ⟨gb40038, 1, none⟩) (Kd.V_far (p := ⟨gb40038, 0, none⟩) (Kd.V_mono HL40028_2.out (fun k_ hk => (⟨hk, hk.2⟩ : _ ∧ k_ ≠ gb40038))) (fun _ hk => hk.2) (.int .i64 t40030)) (fun _ hk => hk.2) (.slice Ao46 t40031.length co46)) (fun _ hk => hk.2) (.slice Ao47 t40034.length co47)) (fun _ hk => ⟨hk.1.1.1.1.1.2, ⟨hk.1.1.1.1.1.1.1, ⟨hk.1.1.1.1.1.1.2.1, ⟨hk.1.1.1.2, ⟨hk.1.1.2, ⟨hk.1.1.1.1.1.1.2.2.1, ⟨hk.1.1.1.1.1.1.2.2.2, ⟨hk.1.1.1.1.2, hk.1.2⟩⟩⟩⟩⟩⟩⟩⟩)⟩
      have n5_ : Aside0 (Kd.R (Kd.int .u8) 5 (((w41.setCell ⟨gb40038, 0, none⟩ (.int .i64 t40030)).setCell ⟨gb40038, 1, none⟩ (.slice Ao46 t40031.length co46)).setCell ⟨gb40038, 2, none⟩ (.slice Ao47 t40034.length co47)) w.heap.size (fun k_ => some k_ ≠ (.slice Ao38 x40018001_1.length co38 : Value).ownBlock) (.slice Ao46 t40031.length co46) t40031) := ⟨by (with_reducible repeat (first | apply Kd.R_alloc | apply Kd.R_drewN | apply Kd.R_drew)); exact Kd.R_mono (rfg3 HO40033.out BK40038.out) (fun _ hk => hk.1.2)⟩
      have n6_ : Aside0 (Kd.N k25 25 (((w41.setCell ⟨gb40038, 0, none⟩ (.int .i64 t40030)).setCell ⟨gb40038, 1, none⟩ (.slice Ao46 t40031.length co46)).setCell ⟨gb40038, 2, none⟩ (.slice Ao47 t40034.length co47)) w.heap.size (fun k_ => some k_ ≠ (.slice (some ad40028) t40018.length co23 : Value).ownBlock ∧ some k_ ≠ (.slice Ao38 x40018001_1.length co38 : Value).ownBlock ∧ some k_ ≠ (.slice Ao39 x40018002_1.length co39 : Value).ownBlock ∧ some k_ ≠ (.slice Ao46 t40031.length co46 : Value).ownBlock ∧ k_ ≠ gb40001 ∧ k_ ≠ gb40017 ∧ k_ ≠ gb40029 ∧ k_ ≠ gb40038) (.slice Ao47 t40034.length co47) t40034) := ⟨by (with_reducible repeat (first | apply Kd.N_alloc | apply Kd.N_drewN | apply Kd.N_drew)); exact Kd.N_mono (Kd.N_far (p := ⟨gb40038, 2, none⟩) (Kd.N_far (p := ⟨gb40038, 1, none⟩) (Kd.N_far (p := ⟨gb40038, 0, none⟩) (Kd.N_mono HO40036.out (fun k_ hk => (⟨hk, hk.2⟩ : _ ∧ k_ ≠ gb40038))) (fun _ hk => hk.2) (.int .i64 t40030)) (fun _ hk => hk.2) (.slice Ao46 t40031.length co46)) (fun _ hk => hk.2) (.slice Ao47 t40034.length co47)) (fun _ hk => ⟨hk.1.1.2.1, ⟨hk.1.1.2.2.1, ⟨hk.1.1.2.2.2.1, ⟨hk.1.1.1, ⟨hk.1.1.2.2.2.2.1, ⟨hk.1.1.2.2.2.2.2.1, ⟨hk.1.1.2.2.2.2.2.2, hk.1.2⟩⟩⟩⟩⟩⟩⟩)⟩
      have n7_ : Aside0 ((((w41.setCell ⟨gb40038, 0, none⟩ (.int .i64 t40030)).setCell ⟨gb40038, 1, none⟩ (.slice Ao46 t40031.length co46)).setCell ⟨gb40038, 2, none⟩ (.slice Ao47 t40034.length co47)).heap[gb40001]? = some (.cells #[.int .u8 a1_0, .int .u8 a1_1] 41 (0, 0))) := ⟨bf1 NB40001_40038.out BK40001.out⟩
      have n8_ : Aside0 ((((w41.setCell ⟨gb40038, 0, none⟩ (.int .i64 t40030)).setCell ⟨gb40038, 1, none⟩ (.slice Ao46 t40031.length co46)).setCell ⟨gb40038, 2, none⟩ (.slice Ao47 t40034.length co47)).heap[gb40017]? = some (.cells #[.int .i64 x40018000_1, .slice Ao38 x40018001_1.length co38, .slice Ao39 x40018002_1.length co39] 34 (0, 0))) := ⟨bf1 NB40017_40038.out BK40017.out⟩
      have n9_ : Aside0 ((((w41.setCell ⟨gb40038, 0, none⟩ (.int .i64 t40030)).setCell ⟨gb40038, 1, none⟩ (.slice Ao46 t40031.length co46)).setCell ⟨gb40038, 2, none⟩ (.slice Ao47 t40034.length co47)).heap[gb40029]? = some (.cells #[.int .i64 ((rd_T25 t40018 x55_1).f0), .int .i64 ((rd_T25 t40018 x55_1).f1), .slice A40028_2 ((rd_T25 t40018 x55_1).f2).length c40028_2, .int .u64 ((rd_T25 t40018 x55_1).f3)] 25 (0, 0))) := ⟨bf1 NB40029_40038.out BK40029.out⟩
      have n10_ : Aside0 ((((w41.setCell ⟨gb40038, 0, none⟩ (.int .i64 t40030)).setCell ⟨gb40038, 1, none⟩ (.slice Ao46 t40031.length co46)).setCell ⟨gb40038, 2, none⟩ (.slice Ao47 t40034.length co47)).heap[gb40038]? = some (.cells #[.int .i64 t40030, .slice Ao46 t40031.length co46, .slice Ao47 t40034.length co47] 34 (0, 0))) := ⟨by (with_reducible repeat (first | refine blk_drewN ?_ _ | refine blk_drew ?_ | refine blk_alloc ?_ _)); refine blk_put (cs := #[.int .i64 t40030, .slice Ao46 t40031.length co46, .slice none 0 0]) ?_ 2 _ rfl; (with_reducible repeat (first | refine blk_drewN ?_ _ | refine blk_drew ?_ | refine blk_alloc ?_ _)); refine blk_put (cs := #[.int .i64 t40030, .slice none 0 0, .slice none 0 0]) ?_ 1 _ rfl; (with_reducible repeat (first | refine blk_drewN ?_ _ | refine blk_drew ?_ | refine blk_alloc ?_ _)); refine blk_put (cs := #[.int .i64 0, .slice none 0 0, .slice none 0 0]) ?_ 0 _ rfl; (with_reducible repeat (first | refine blk_drewN ?_ _ | refine blk_drew ?_ | refine blk_alloc ?_ _)); exact BK40038.out⟩
      have n11_ : Aside0 (Below w.heap.size w (((w41.setCell ⟨gb40038, 0, none⟩ (.int .i64 t40030)).setCell ⟨gb40038, 1, none⟩ (.slice Ao46 t40031.length co46)).setCell ⟨gb40038, 2, none⟩ (.slice Ao47 t40034.length co47))) := ⟨hz4 HB.out GE40001.out GE40017.out GE40029.out GE40038.out⟩
      (try clear HO_10)
      (try clear HO_53)
      (try clear HO_40018001)
      (try clear HO_40018002)
      (try clear HL40028_2)
      (try clear HO40033)
      (try clear HO40036)
      (try clear BK40001)
      (try clear BK40017)
      (try clear BK40029)
      (try clear BK40038)
      (try clear HB)
      generalize (((w41.setCell ⟨gb40038, 0, none⟩ (.int .i64 t40030)).setCell ⟨gb40038, 1, none⟩ (.slice Ao46 t40031.length co46)).setCell ⟨gb40038, 2, none⟩ (.slice Ao47 t40034.length co47)) = w48 at n0_ n1_ n2_ n3_ n4_ n5_ n6_ n7_ n8_ n9_ n10_ n11_ ⊢
      have HO_10 := n0_
      have HO_53 := n1_
      have HO_40018001 := n2_
      have HO_40018002 := n3_
      have HL40028_2 := n4_
      have HO40033 := n5_
      have HO40036 := n6_
      have BK40001 := n7_
      have BK40017 := n8_
      have BK40029 := n9_
      have BK40038 := n10_
      have HB := n11_
      clear n0_ n1_ n2_ n3_ n4_ n5_ n6_ n7_ n8_ n9_ n10_ n11_
      replace HO_10 := am (Kd.V_drew HO_10.out)
      replace HO_53 := am (Kd.N_drew HO_53.out)
      replace HO_40018001 := am (Kd.R_drew HO_40018001.out)
      replace HO_40018002 := am (Kd.N_drew HO_40018002.out)
      replace HL40028_2 := am (Kd.V_drew HL40028_2.out)
      replace HO40033 := am (Kd.R_drew HO40033.out)
      replace HO40036 := am (Kd.N_drew HO40036.out)
      replace BK40001 := am (blk_drew BK40001.out)
      replace BK40017 := am (blk_drew BK40017.out)
      replace BK40029 := am (blk_drew BK40029.out)
      replace BK40038 := am (blk_drew BK40038.out)
      replace HB := am (below_drew1 HB.out)
      refine start_ (n := 9) (S := fun w' => w'.cell? ⟨gb40038, 0, none⟩ = some (.int .i64 t40030) ∧ w'.cell? ⟨gb40038, 1, none⟩ = some (.slice Ao46 t40031.length co46) ∧ w'.cell? ⟨gb40038, 2, none⟩ = some (.slice Ao47 t40034.length co47) ∧ w'.cell? ⟨gb40017, 0, none⟩ = some (.int .i64 x40018000_1) ∧ w'.cell? ⟨gb40017, 1, none⟩ = some (.slice Ao38 x40018001_1.length co38) ∧ w'.cell? ⟨gb40017, 2, none⟩ = some (.slice Ao39 x40018002_1.length co39)) (ds := []) #[false, false, false, false, false, false, false, false, false] (by kernel_rfl) rfl rfl ⟨(blk_cell BK40038.out 0).trans rfl, (blk_cell BK40038.out 1).trans rfl, (blk_cell BK40038.out 2).trans rfl, (blk_cell BK40017.out 0).trans rfl, (blk_cell BK40017.out 1).trans rfl, (blk_cell BK40017.out 2).trans rfl⟩ (fun hHeld => ?_); refine with_tabW examboardlaw53_UploadRest.tab12 examboardlaw53_UploadRest.bits12 (fun HT_ HW_ => ?_)
      generalize w48.drew = w49 at HO_10 HO_53 HO_40018001 HO_40018002 HL40028_2 HO40033 HO40036 BK40001 BK40017 BK40029 BK40038 HB hHeld ⊢
      refine pz 0 65 HT_.out ?_
      refine pz 1 66 HT_.out ?_
      refine pz 2 67 HT_.out ?_
      refine take_ (i := 3) (N := some 68) (v := ?_) (a' := ?_) #[true, true, true, true, false, false, false, false, false] rfl rfl (take_ofW HT_.out HW_.out (by kernel_rfl)) (fun _ _ _ h => h) (Or.inl ⟨by rfl, ?_⟩) hHeld ?_ ?_
      rotate_left
      ·
       rintro w' ⟨s0, s1, s2, s3, s4, s5⟩
       go_simp
       with_reducible rfl
      rotate_left
      ·
       simp only [Act.put, List.setIfInBounds_toArray, List.set_cons_zero, List.set_cons_succ, i64_w, i32_w]
       rfl
      refine take_ (i := 5) (N := some 70) (v := ?_) (a' := ?_) #[true, true, true, true, false, true, false, false, false] rfl rfl (take_ofW HT_.out HW_.out (by kernel_rfl)) (fun _ _ _ h => h) (Or.inl ⟨by rfl, ?_⟩) hHeld ?_ ?_
      rotate_left
      ·
       rintro w' ⟨s0, s1, s2, s3, s4, s5⟩
       go_simp
       with_reducible rfl
      rotate_left
      ·
       simp only [Act.put, List.setIfInBounds_toArray, List.set_cons_zero, List.set_cons_succ, i64_w, i32_w]
       rfl
      refine oz 4 69 HT_.out (fun K hK => ?_)
      refine goes_ Try.func21 (by kernel_rfl) rfl #[.agg #[.int .i64 t40030, .slice Ao46 t40031.length co46, .slice Ao47 t40034.length co47]] (by rfl) rfl rfl lz ?_
      with_reducible refine (upload_Need.calls t40030 _ _ t40031 _ _ t40034 t40039 _ ?side1 ?side2 ?side3 ?side4 A29.out).mono ?_
      (case side1 => repeat (first | exact (Kd.R_reads' HO40033.out).2.2 | (with_reducible refine Kd.C_alloc ?_ _) | (with_reducible refine Kd.C_drewN ?_ _) | (with_reducible refine Kd.C_drew ?_)))
      (case side2 => exact (Kd.R_reads' HO40033.out).2.1)
      (case side3 => repeat (first | exact (Kd.N_reads' HO40036.out).2.2 | (with_reducible refine Kd.C_alloc ?_ _) | (with_reducible refine Kd.C_drewN ?_ _) | (with_reducible refine Kd.C_drew ?_)))
      (case side4 => exact (Kd.N_reads' HO40036.out).2.1)
      rintro e w50 ⟨rfl, hb⟩
      refine ⟨_, rfl, ?_⟩
      replace HO_10 := am (Kd.V_below (vz HO_10.out) hb)
      replace HO_53 := am (Kd.N_below (nz HO_53.out) hb)
      replace HO_40018001 := am (Kd.R_below (rz HO_40018001.out) hb)
      replace HO_40018002 := am (Kd.N_below (nz HO_40018002.out) hb)
      replace HL40028_2 := am (Kd.V_below (vz HL40028_2.out) hb)
      replace HO40033 := am (Kd.R_below (rz HO40033.out) hb)
      replace HO40036 := am (Kd.N_below (nz HO40036.out) hb)
      replace BK40001 := am (blk_below (bz BK40001.out) hb)
      replace BK40017 := am (blk_below (bz BK40017.out) hb)
      replace BK40029 := am (blk_below (bz BK40029.out) hb)
      replace BK40038 := am (blk_below (bz BK40038.out) hb)
      replace HB := am (below_step (hz4 HB.out GE40001.out GE40017.out GE40029.out GE40038.out) hb)
      (try clear hb)
      (try clear hb2)
      (try clear hk)
      (try clear hi)
      refine hK.out _ _ ⟨(blk_cell BK40038.out 0).trans rfl, (blk_cell BK40038.out 1).trans rfl, (blk_cell BK40038.out 2).trans rfl, (blk_cell BK40017.out 0).trans rfl, (blk_cell BK40017.out 1).trans rfl, (blk_cell BK40017.out 2).trans rfl⟩ (fun hHeld => ?_)
      clear hK K
      refine norm_ (a' := ?_) ?_ ?_
      rotate_left
      ·
       show Act.put _ (some 69) _ = _
       simp only [Act.put, List.setIfInBounds_toArray, List.set_cons_zero, List.set_cons_succ, i64_w, i32_w]
       rfl
      refine oz 6 71 HT_.out (fun K hK => ?_)
      refine goes_ Try.func21 (by kernel_rfl) rfl #[.agg #[.int .i64 x40018000_1, .slice Ao38 x40018001_1.length co38, .slice Ao39 x40018002_1.length co39]] (by rfl) rfl rfl lz ?_
      with_reducible refine (upload_Need.calls x40018000_1 _ _ x40018001_1 _ _ x40018002_1 t40040 _ ?side1 ?side2 ?side3 ?side4 A30.out).mono ?_
      (case side1 => repeat (first | exact (Kd.R_reads' HO_40018001.out).2.2 | (with_reducible refine Kd.C_alloc ?_ _) | (with_reducible refine Kd.C_drewN ?_ _) | (with_reducible refine Kd.C_drew ?_)))
      (case side2 => exact (Kd.R_reads' HO_40018001.out).2.1)
      (case side3 => repeat (first | exact (Kd.N_reads' HO_40018002.out).2.2 | (with_reducible refine Kd.C_alloc ?_ _) | (with_reducible refine Kd.C_drewN ?_ _) | (with_reducible refine Kd.C_drew ?_)))
      (case side4 => exact (Kd.N_reads' HO_40018002.out).2.1)
      rintro e w51 ⟨rfl, hb⟩
      refine ⟨_, rfl, ?_⟩
      replace HO_10 := am (Kd.V_below (vz HO_10.out) hb)
      replace HO_53 := am (Kd.N_below (nz HO_53.out) hb)
      replace HO_40018001 := am (Kd.R_below (rz HO_40018001.out) hb)
      replace HO_40018002 := am (Kd.N_below (nz HO_40018002.out) hb)
      replace HL40028_2 := am (Kd.V_below (vz HL40028_2.out) hb)
      replace HO40033 := am (Kd.R_below (rz HO40033.out) hb)
      replace HO40036 := am (Kd.N_below (nz HO40036.out) hb)
      replace BK40001 := am (blk_below (bz BK40001.out) hb)
      replace BK40017 := am (blk_below (bz BK40017.out) hb)
      replace BK40029 := am (blk_below (bz BK40029.out) hb)
      replace BK40038 := am (blk_below (bz BK40038.out) hb)
      replace HB := am (below_step (hz4 HB.out GE40001.out GE40017.out GE40029.out GE40038.out) hb)
      (try clear hb)
      (try clear hb2)
      (try clear hk)
      (try clear hi)
      refine hK.out _ _ ⟨(blk_cell BK40038.out 0).trans rfl, (blk_cell BK40038.out 1).trans rfl, (blk_cell BK40038.out 2).trans rfl, (blk_cell BK40017.out 0).trans rfl, (blk_cell BK40017.out 1).trans rfl, (blk_cell BK40017.out 2).trans rfl⟩ (fun hHeld => ?_)
      clear hK K
      refine norm_ (a' := ?_) ?_ ?_
      rotate_left
      ·
       show Act.put _ (some 71) _ = _
       simp only [Act.put, List.setIfInBounds_toArray, List.set_cons_zero, List.set_cons_succ, i64_w, i32_w]
       rfl
      refine pz 7 72 HT_.out ?_
      refine pz 8 73 HT_.out ?_
      refine done_ (done_of HT_.out (by kernel_rfl)) ?_
      have hcz52_0 : w51.cell? ⟨gb40038, 0, none⟩ = some (.int .i64 t40030) := (blk_cell BK40038.out 0).trans rfl
      have hcz52_1 : w51.cell? ⟨gb40038, 1, none⟩ = some (.slice Ao46 t40031.length co46) := (blk_cell BK40038.out 1).trans rfl
      have hcz52_2 : w51.cell? ⟨gb40038, 2, none⟩ = some (.slice Ao47 t40034.length co47) := (blk_cell BK40038.out 2).trans rfl
      have hfz52_0 := blk_frozen BK40038.out 0
      have hfz52_1 := blk_frozen BK40038.out 1
      have hfz52_2 := blk_frozen BK40038.out 2
      have hcz53_0 : w51.cell? ⟨gb40017, 0, none⟩ = some (.int .i64 x40018000_1) := (blk_cell BK40017.out 0).trans rfl
      have hcz53_1 : w51.cell? ⟨gb40017, 1, none⟩ = some (.slice Ao38 x40018001_1.length co38) := (blk_cell BK40017.out 1).trans rfl
      have hcz53_2 : w51.cell? ⟨gb40017, 2, none⟩ = some (.slice Ao39 x40018002_1.length co39) := (blk_cell BK40017.out 2).trans rfl
      have hfz53_0 := blk_frozen BK40017.out 0
      have hfz53_1 := blk_frozen BK40017.out 1
      have hfz53_2 := blk_frozen BK40017.out 2
      try go_wp2
      go_roundg k1
      case measure => have := HK1.out; omega
      case rel => exact ⟨(wrap64 (x55_1 + 1)), (t40030), (t40031), (t40034), (.slice Ao46 t40031.length co46), (.slice Ao47 t40034.length co47), (by first | rfl | (simp; done) | (simp [*]; done)), H', ⟨by have := HK1.out; omega⟩, ⟨by (with_reducible repeat (first | apply Kd.V_alloc | apply Kd.V_drewN | apply Kd.V_drew)); exact Kd.V_mono (Kd.V_far (p := ⟨gb40017, 2, none⟩) (Kd.V_far (p := ⟨gb40017, 1, none⟩) (Kd.V_far (p := ⟨gb40017, 0, none⟩) (Kd.V_mono HO_10.out (fun k_ hk => (⟨hk, hk.2.2.2.2.2.2.1⟩ : _ ∧ k_ ≠ gb40017))) (fun _ hk => hk.2) (.int .i64 t40030)) (fun _ hk => hk.2) (.slice Ao46 t40031.length co46)) (fun _ hk => hk.2) (.slice Ao47 t40034.length co47)) (fun _ hk => ⟨hk.1.1, ⟨hk.1.2.2.2.1, ⟨hk.1.2.2.2.2.1, ⟨hk.1.2.2.2.2.2.1, hk.1.2.2.2.2.2.2.1⟩⟩⟩⟩)⟩, ⟨by (with_reducible repeat (first | apply Kd.N_alloc | apply Kd.N_drewN | apply Kd.N_drew)); exact Kd.N_mono (Kd.N_far (p := ⟨gb40017, 2, none⟩) (Kd.N_far (p := ⟨gb40017, 1, none⟩) (Kd.N_far (p := ⟨gb40017, 0, none⟩) (Kd.N_mono HO_53.out (fun k_ hk => (⟨hk, hk.2.2.2.2.2.1⟩ : _ ∧ k_ ≠ gb40017))) (fun _ hk => hk.2) (.int .i64 t40030)) (fun _ hk => hk.2) (.slice Ao46 t40031.length co46)) (fun _ hk => hk.2) (.slice Ao47 t40034.length co47)) (fun _ hk => ⟨hk.1.2.2.1, ⟨hk.1.2.2.2.1, ⟨hk.1.2.2.2.2.1, hk.1.2.2.2.2.2.1⟩⟩⟩)⟩, ⟨by (with_reducible repeat (first | apply Kd.R_alloc | apply Kd.R_drewN | apply Kd.R_drew)); exact Kd.R_mono (rfg3 HO40033.out BK40017.out) (fun _ hk => trivial)⟩, ⟨by (with_reducible repeat (first | apply Kd.N_alloc | apply Kd.N_drewN | apply Kd.N_drew)); exact Kd.N_mono (Kd.N_far (p := ⟨gb40017, 2, none⟩) (Kd.N_far (p := ⟨gb40017, 1, none⟩) (Kd.N_far (p := ⟨gb40017, 0, none⟩) (Kd.N_mono HO40036.out (fun k_ hk => (⟨hk, hk.2.2.2.2.2.1⟩ : _ ∧ k_ ≠ gb40017))) (fun _ hk => hk.2) (.int .i64 t40030)) (fun _ hk => hk.2) (.slice Ao46 t40031.length co46)) (fun _ hk => hk.2) (.slice Ao47 t40034.length co47)) (fun _ hk => ⟨hk.1.1, ⟨hk.1.2.2.2.1, ⟨hk.1.2.2.2.2.1, hk.1.2.2.2.2.2.1⟩⟩⟩)⟩, ⟨bf1 NB40001_40017.out BK40001.out⟩, ⟨by (with_reducible repeat (first | refine blk_drewN ?_ _ | refine blk_drew ?_ | refine blk_alloc ?_ _)); refine blk_put (cs := #[.int .i64 t40030, .slice Ao46 t40031.length co46, .slice Ao39 x40018002_1.length co39]) ?_ 2 _ rfl; (with_reducible repeat (first | refine blk_drewN ?_ _ | refine blk_drew ?_ | refine blk_alloc ?_ _)); refine blk_put (cs := #[.int .i64 t40030, .slice Ao38 x40018001_1.length co38, .slice Ao39 x40018002_1.length co39]) ?_ 1 _ rfl; (with_reducible repeat (first | refine blk_drewN ?_ _ | refine blk_drew ?_ | refine blk_alloc ?_ _)); refine blk_put (cs := #[.int .i64 x40018000_1, .slice Ao38 x40018001_1.length co38, .slice Ao39 x40018002_1.length co39]) ?_ 0 _ rfl; (with_reducible repeat (first | refine blk_drewN ?_ _ | refine blk_drew ?_ | refine blk_alloc ?_ _)); exact BK40017.out⟩, ⟨hz4 HB.out GE40001.out GE40017.out GE40029.out GE40038.out⟩⟩
     ·
      rw [if_neg c24] at H
      have c24b0 : decide (x55_1 < (t40018.length : Int)) = false := decide_eq_false c24
      clear c24
      replace H := Option.bind_eq_some_iff.mp H
      obtain ⟨⟨t40022, t40025⟩, A540, H⟩ := H
      replace H : ((examboardlaw53_equal.f k1 x40018001_1 t40005).bind fun t40026 => (if t40026 = true then (if (x40018002_1.length : Int) = 0 then (if (t40022.length : Int) = 0 then (if t40025 = 0 then ((examboardlaw53_awake.f k1).bind fun t40027 => (some t40027)) else (none)) else (none)) else (none)) else (none))) = some r := H
      have A54 := am A540
      clear A540
      replace H := Option.bind_eq_some_iff.mp H
      obtain ⟨t40026, A550, H⟩ := H
      replace H : (if t40026 = true then (if (x40018002_1.length : Int) = 0 then (if (t40022.length : Int) = 0 then (if t40025 = 0 then ((examboardlaw53_awake.f k1).bind fun t40027 => (some t40027)) else (none)) else (none)) else (none)) else (none)) = some r := H
      have A55 := am A550
      clear A550
      by_cases c56 : t40026 = true
      ·
       subst c56
       have H1 : (if (x40018002_1.length : Int) = 0 then (if (t40022.length : Int) = 0 then (if t40025 = 0 then ((examboardlaw53_awake.f k1).bind fun t40027 => (some t40027)) else (none)) else (none)) else (none)) = some r := by rw [if_pos rfl] at H; exact H
       clear H
       have H := H1
       clear H1
       replace H := it_ H
       obtain ⟨c57, H⟩ := H
       have c57b0 : ((x40018002_1.length : Int) == 0) = true := beq_iff_eq.mpr c57
       have c57b1 : ((x40018002_1.length : Int) != 0) = false := bne_eq_false_iff_eq.mpr c57
       clear c57
       replace H := it_ H
       obtain ⟨c58, H⟩ := H
       have c58b0 : ((t40022.length : Int) == 0) = true := beq_iff_eq.mpr c58
       have c58b1 : ((t40022.length : Int) != 0) = false := bne_eq_false_iff_eq.mpr c58
       clear c58
       replace H := it_ H
       obtain ⟨c59, H⟩ := H
       have c59b0 : (t40025 == 0) = true := beq_iff_eq.mpr c59
       have c59b1 : (t40025 != 0) = false := bne_eq_false_iff_eq.mpr c59
       clear c59
       replace H := Option.bind_eq_some_iff.mp H
       obtain ⟨t40027, A600, H⟩ := H
       replace H : (some t40027) = some r := H
       have A60 := am A600
       clear A600
       obtain rfl := Option.some.inj H
       have hnb61 := NB40017_40001.out
       have hnc61 := NB40001_40017.out
       have hcz62_0 : wr.cell? ⟨gb40017, 0, none⟩ = some (.int .i64 x40018000_1) := (blk_cell BK40017.out 0).trans rfl
       have hcz62_1 : wr.cell? ⟨gb40017, 1, none⟩ = some (u40018001) := (blk_cell BK40017.out 1).trans rfl
       have hcz62_2 : wr.cell? ⟨gb40017, 2, none⟩ = some (u40018002) := (blk_cell BK40017.out 2).trans rfl
       have hfz62_0 := blk_frozen BK40017.out 0
       have hfz62_1 := blk_frozen BK40017.out 1
       have hfz62_2 := blk_frozen BK40017.out 2
       obtain ⟨Ao63, co63, eo63⟩ := Kd.R_slice HO_40018001.out
       subst eo63
       obtain ⟨Ao64, co64, eo64⟩ := Kd.N_slice HO_40018002.out
       subst eo64
       go_wp2_with (first | ((with_reducible refine gate_callee (f := 24) rfl ?_); refine goesL_ (some 79) rfl rfl Try.func24 (by kernel_rfl) rfl #[.agg #[.int .i64 x40018000_1, .slice Ao63 x40018001_1.length co63, .slice Ao64 x40018002_1.length co64], .slice Ao21 t40005.length co21, .int .i64 1] rfl lz ?_; (with_reducible refine (upload_Rest.calls k1 x40018000_1 _ _ x40018001_1 _ _ x40018002_1 _ _ t40005 1 t40022 t40025 _ ?side1 ?side2 ?side3 ?side4 ?side5 ?side6 A54.out).mono ?_); (case side1 => repeat (first | exact (Kd.R_reads' HO_40018001.out).2.2 | (with_reducible refine Kd.C_alloc ?_ _) | (with_reducible refine Kd.C_drewN ?_ _) | (with_reducible refine Kd.C_drew ?_))); (case side2 => exact (Kd.R_reads' HO_40018001.out).2.1); (case side3 => repeat (first | exact (Kd.N_reads' HO_40018002.out).2.2 | (with_reducible refine Kd.C_alloc ?_ _) | (with_reducible refine Kd.C_drewN ?_ _) | (with_reducible refine Kd.C_drew ?_))); (case side4 => exact (Kd.N_reads' HO_40018002.out).2.1); (case side5 => repeat (first | exact (Kd.V_reads' HO_10.out).2.2 | (with_reducible refine Kd.C_alloc ?_ _) | (with_reducible refine Kd.C_drewN ?_ _) | (with_reducible refine Kd.C_drew ?_))); (case side6 => exact (Kd.V_reads' HO_10.out).2.1); rintro e w65 ⟨v40023, rfl, ho0, hb⟩; refine ⟨_, rfl, ?_⟩; replace HO_10 := am (Kd.V_elder' (vz HO_10.out) (Kd.S_base ho0) hb); have HO40024 := am (Kd.N_lower (Kd.N_mono (ok' := fun k_ => some k_ ≠ (.slice Ao23 t40018.length co23 : Value).ownBlock ∧ some k_ ≠ (.slice Ao63 x40018001_1.length co63 : Value).ownBlock ∧ some k_ ≠ (.slice Ao64 x40018002_1.length co64 : Value).ownBlock ∧ k_ ≠ gb40001 ∧ k_ ≠ gb40017) (Kd.S_N (Kd.S_bound ho0)) (fun k_ hk_ => ⟨(Kd.fresh' (Kd.N_lt (nz HO_53.out)) k_ hk_.2.1), (Kd.fresh' (Kd.R_lt (rz HO_40018001.out)) k_ hk_.2.1), (Kd.fresh' (Kd.N_lt (nz HO_40018002.out)) k_ hk_.2.1), (Kd.freshB (g := gb40001) (o := .cells #[.int .u8 a1_0, .int .u8 a1_1] 41 (0, 0)) (bz BK40001.out) k_ hk_.2.1), (Kd.freshB (g := gb40017) (o := .cells #[.int .i64 x40018000_1, .slice Ao63 x40018001_1.length co63, .slice Ao64 x40018002_1.length co64] 34 (0, 0)) (bz BK40017.out) k_ hk_.2.1)⟩)) (below_size (hz2 HB.out GE40001.out GE40017.out))); replace HO_53 := am (Kd.N_elder' (nz HO_53.out) (Kd.S_base ho0) hb); replace HO_40018001 := am (Kd.R_below (rz HO_40018001.out) hb); replace HO_40018002 := am (Kd.N_elder' (nz HO_40018002.out) (Kd.S_base ho0) hb); replace BK40001 := am (blk_below (bz BK40001.out) hb); replace BK40017 := am (blk_below (bz BK40017.out) hb); replace HB := am (below_step (hz2 HB.out GE40001.out GE40017.out) hb); (try clear hb); (try clear hb2); (try clear hk); (try clear hi); (try clear ho0); obtain ⟨hcz66_0, hcz66_1, hcz66_2⟩ := cs3 BK40017.out; obtain ⟨hfz66_0, hfz66_1, hfz66_2⟩ := fs3 BK40017.out) | ((with_reducible refine gate_callee (f := 22) rfl ?_); refine goesL_ (some 85) rfl rfl Try.func22 (by kernel_rfl) rfl #[.slice Ao63 x40018001_1.length co63, .slice Ao21 t40005.length co21] rfl lz ?_; (with_reducible refine (examboardlaw53_equal.calls k1 _ _ x40018001_1 _ _ t40005 true _ ?side1 ?side2 ?side3 ?side4 A55.out).mono ?_); (case side1 => repeat (first | exact (Kd.R_reads' HO_40018001.out).2.2 | (with_reducible refine Kd.C_alloc ?_ _) | (with_reducible refine Kd.C_drewN ?_ _) | (with_reducible refine Kd.C_drew ?_))); (case side2 => exact (Kd.R_reads' HO_40018001.out).2.1); (case side3 => repeat (first | exact (Kd.V_reads' HO_10.out).2.2 | (with_reducible refine Kd.C_alloc ?_ _) | (with_reducible refine Kd.C_drewN ?_ _) | (with_reducible refine Kd.C_drew ?_))); (case side4 => exact (Kd.V_reads' HO_10.out).2.1); rintro e w' ⟨rfl, ⟨nd, rfl⟩⟩; refine ⟨_, rfl, ?_⟩; obtain ⟨Ao67, co67, eo67⟩ := Kd.N_slice HO40024.out; subst eo67) | (go_at_call 18; (with_reducible refine (examboardlaw53_awake.calls k1  t40027 _ A60.out).mono ?_); rintro e w68 ⟨rfl, hb⟩; replace HO_10 := am (Kd.V_below (vz HO_10.out) hb); replace HO_53 := am (Kd.N_below (nz HO_53.out) hb); replace HO_40018001 := am (Kd.R_below (rz HO_40018001.out) hb); replace HO_40018002 := am (Kd.N_below (nz HO_40018002.out) hb); replace HO40024 := am (Kd.N_below (nz HO40024.out) hb); replace BK40001 := am (blk_below (bz BK40001.out) hb); replace BK40017 := am (blk_below (bz BK40017.out) hb); replace HB := am (below_step (hz2 HB.out GE40001.out GE40017.out) hb); (try clear hb); (try clear hb2); (try clear hk); (try clear hi)))
       go_ret
       exact ⟨ez, hz2 HB.out GE40001.out GE40017.out⟩
      ·
       replace c56 := Bool.eq_false_iff.mpr c56
       subst c56
       have H1 : (none) = some r := by rw [if_neg (show ¬ (false = true) by decide)] at H; exact H
       clear H
       have H := H1
       clear H1
       exact absurd H (by simp)
  ·
   replace c8 := Bool.eq_false_iff.mpr c8
   subst c8
   have H1 : (none) = some r := by rw [if_neg (show ¬ (false = true) by decide)] at H; exact H
   clear H
   have H := H1
   clear H1
   exact absurd H (by simp)
 ·
  replace c7 := Bool.eq_false_iff.mpr c7
  subst c7
  have H1 : (none) = some r := by rw [if_neg (show ¬ (false = true) by decide)] at H; exact H
  clear H
  have H := H1
  clear H1
  exact absurd H (by simp)

end Go.Proofs.Ytglpnbcockancaa.Q
