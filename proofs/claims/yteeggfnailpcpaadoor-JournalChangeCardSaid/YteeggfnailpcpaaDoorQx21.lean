/- Made by wip/myprint.py of this session (it drives the kit's printer): what the calls of the Go functions come to, as plain Lean functions, and the row of a law over them; without conditions. -/
import Derived.Test.YteeggfnailpcpaaDoorQx0
import Derived.Test.YteeggfnailpcpaaDoorQx1
import Derived.Test.YteeggfnailpcpaaDoorQx5
import Derived.Test.YteeggfnailpcpaaDoorQx10
namespace Go.Proofs.YteeggfnailpcpaaDoor.Q
open Go.RowKit Go.Proofs.YteeggfnailpcpaaDoorW.PrintWords Go.Proofs.YteeggfnailpcpaaDoorW.PrintLast Go.Proofs.YteeggfnailpcpaaDoorW.PrintMore
attribute [local go_sem] max2_int min2_int max_two min_two max_three min_three max_four min_four   -- for this text's walks alone
set_option linter.unusedVariables false
set_option linter.unusedSimpArgs false

/-! ### examboardlaw49_written: function 9 -/
def examboardlaw49_written.l0 : Nat → List Int → List (S43) → List Int → List (S43) → Int → Int → Option (List Int × (List (S43)) × List Int × Bool)
 | 0, _, _, _, _, _, _ => none
 | k + 1, x6, x7, x8, x15, x16, x17 => if x17 < x16 then (if 0 ≤ x17 then (if x17 < (x15.length : Int) then ((codec_Encode.f k ((rd_T43 x15 x17).f0) ((rd_T43 x15 x17).f1) ((rd_T43 x15 x17).f2) ((rd_T43 x15 x17).f3) ((rd_T43 x15 x17).f4)).bind fun bt285 => (if (x7.length : Int) = 10 then (examboardlaw49_written.l0 k x6 x7 x8 x15 x16 (wrap64 (x17 + 1))) else (if bt285.2 = 0 then (if (bt285.1.length : Int) > 2000 then (examboardlaw49_written.l0 k x6 x7 x8 x15 x16 (wrap64 (x17 + 1))) else ((journal_Append.f k x6 ((rd_T43 x15 x17).f0) ((rd_T43 x15 x17).f1) ((rd_T43 x15 x17).f2) ((rd_T43 x15 x17).f3) ((rd_T43 x15 x17).f4)).bind fun bt289 => (if bt289.2 = 0 then ((journal_Extends.f bt289.1 x6).bind fun t293 => (if t293 = true then (if (bt289.1.length : Int) = (wrap64 ((wrap64 ((x6.length : Int) + (bt285.1.length : Int))) + 12)) then (if x7.length < 2199023255552 then (if x8.length < 17592186044416 then (examboardlaw49_written.l0 k bt289.1 (x7 ++ [(⟨(rd_T43 x15 x17).f0, (rd_T43 x15 x17).f1, (rd_T43 x15 x17).f2, (rd_T43 x15 x17).f3, (rd_T43 x15 x17).f4⟩ : S43)]) (x8 ++ [(bt289.1.length : Int)]) x15 x16 (wrap64 (x17 + 1))) else (none)) else (none)) else (none)) else (none))) else (none)))) else (examboardlaw49_written.l0 k x6 x7 x8 x15 x16 (wrap64 (x17 + 1)))))) else (none)) else (none)) else (some (x6, x7, x8, true))
def examboardlaw49_written.f (k : Nat) (l0 : List (S43)) : Option (List Int × (List (S43)) × List Int × Bool) := examboardlaw49_written.l0 k ([] : List Int) ([] : List (S43)) ([] : List Int) l0 (l0.length : Int) 0
theorem examboardlaw49_written.mono_l : ∀ k, (∀ y0 y1 y2 y3 y4 y5, LeO (examboardlaw49_written.l0 k y0 y1 y2 y3 y4 y5) (examboardlaw49_written.l0 (k + 1) y0 y1 y2 y3 y4 y5))
 | 0 => fun _ _ _ _ _ _ r h => by simp [examboardlaw49_written.l0] at h
 | k + 1 => by
  have ih0 := examboardlaw49_written.mono_l k
  ·
   intro y0 y1 y2 y3 y4 y5
   unfold examboardlaw49_written.l0
   repeat' first
   | (with_reducible exact ih0 _ _ _ _ _ _)
   | (with_reducible exact codec_Encode.mono _ _ _ _ _ _)
   | (with_reducible exact journal_Append.mono _ _ _ _ _ _ _)
   | (with_reducible exact LeO.refl _)
   | (with_reducible exact LeO.none _)
   | (with_reducible refine LeO.ite ?_ ?_)
   | (with_reducible refine LeO.bind ?_ (fun _ => ?_))
   | exact ih0 _ _ _ _ _ _
   | exact codec_Encode.mono _ _ _ _ _ _
   | exact journal_Append.mono _ _ _ _ _ _ _
   | exact LeO.none _
   | refine LeO.ite ?_ ?_
   | refine LeO.bind ?_ (fun _ => ?_)
theorem examboardlaw49_written.mono : ∀ a0 k, LeO (examboardlaw49_written.f k a0) (examboardlaw49_written.f (k + 1) a0) := by
 intro a0 k
 have ih0 := examboardlaw49_written.mono_l k
 unfold examboardlaw49_written.f
 repeat' first
   | (with_reducible exact ih0 _ _ _ _ _ _)
   | (with_reducible exact codec_Encode.mono _ _ _ _ _ _)
   | (with_reducible exact journal_Append.mono _ _ _ _ _ _ _)
   | (with_reducible exact LeO.refl _)
   | (with_reducible exact LeO.none _)
   | (with_reducible refine LeO.ite ?_ ?_)
   | (with_reducible refine LeO.bind ?_ (fun _ => ?_))
   | exact ih0 _ _ _ _ _ _
   | exact codec_Encode.mono _ _ _ _ _ _
   | exact journal_Append.mono _ _ _ _ _ _ _
   | exact LeO.none _
   | refine LeO.ite ?_ ?_
   | refine LeO.bind ?_ (fun _ => ?_)
set_option maxHeartbeats 8000000 in
set_option maxRecDepth 100000 in
theorem examboardlaw49_written.calls (k : Nat) (P0_ : Nat → Prop) (A0 : Option Addr) (c0 : Nat) (l0 : List (S43)) (r1 : List Int) (r2 : List (S43)) (r3 : List Int) (r4 : Bool) (w : World) (hG : GlE w) (hs0 : Kd.V k43 43 w w.heap.size (fun k_ => P0_ k_) (.slice A0 l0.length c0) l0) (h : examboardlaw49_written.f k l0 = some (r1, r2, r3, r4)) :
  Calls Tryd.prog 9 #[.slice A0 l0.length c0] w fun e w' => ∃ v0_ v1_ v2_ : Value, e = .returned (.tuple #[v0_, v1_, v2_, .bool r4]) ∧ Kd.R (Kd.int .u8) 5 w' w.heap.size (fun k_ => (w.heap.size ≤ k_)) v0_ r1 ∧ Kd.N k43 43 w' w.heap.size (fun k_ => (P0_ k_ ∨ w.heap.size ≤ k_) ∧ some k_ ≠ (v0_ : Value).ownBlock ∧ some k_ ≠ (v2_ : Value).ownBlock) v1_ r2 ∧ Kd.R (Kd.int .i64) 3 w' w.heap.size (fun k_ => (w.heap.size ≤ k_)) v2_ r3 ∧ Below w.heap.size w w' := by
 have hu43 := Tryd.underlying43
 have HO0 := am (show Kd.V k43 43 w w.heap.size (fun k_ => (P0_ k_ ∨ w.heap.size ≤ k_)) (.slice A0 l0.length c0) l0 from Kd.V_mono hs0 (fun k_ hk => .inl hk))
 have HG_ := am hG
 clear hG
 have HB := am (Below.refl w.heap.size w)
 have H : (examboardlaw49_written.l0 k ([] : List Int) ([] : List (S43)) ([] : List Int) l0 (l0.length : Int) 0) = some (r1, r2, r3, r4) := h
 clear h
 have H' := am H
 clear H
 go_enter Tryd.func9, Tryd.ntmps9
 go_wp2
 go_loopg [6, 7, 8, 17] k (fun kq v6 v7 v8 v17 w' => ∃ (x6_1 : List Int) (x7_1 : List (S43)) (x8_1 : List Int) (x17_1 : Int), v17 = .int .i64 x17_1 ∧ Aside0 (examboardlaw49_written.l0 kq x6_1 x7_1 x8_1 l0 (l0.length : Int) x17_1 = some (r1, r2, r3, r4)) ∧ Aside0 (kq ≤ k) ∧ Aside0 (Kd.R (Kd.int .u8) 5 w' w.heap.size (fun k_ => (w.heap.size ≤ k_)) v6 x6_1) ∧ Aside0 (Kd.N k43 43 w' w.heap.size (fun k_ => (P0_ k_ ∨ w.heap.size ≤ k_) ∧ some k_ ≠ (v6 : Value).ownBlock ∧ some k_ ≠ (v8 : Value).ownBlock) v7 x7_1) ∧ Aside0 (Kd.R (Kd.int .i64) 3 w' w.heap.size (fun k_ => (w.heap.size ≤ k_)) v8 x8_1) ∧ Aside0 (Kd.V k43 43 w' w.heap.size (fun k_ => (P0_ k_ ∨ w.heap.size ≤ k_) ∧ some k_ ≠ (v6 : Value).ownBlock ∧ some k_ ≠ (v7 : Value).ownBlock ∧ some k_ ≠ (v8 : Value).ownBlock) (.slice A0 l0.length c0) l0) ∧ Aside0 (Below w.heap.size w w'))
 case atStart => exact ⟨(([] : List Int)), (([] : List (S43))), (([] : List Int)), (0), (by first | rfl | (simp; done) | (simp [*]; done)), H', ⟨Nat.le_refl _⟩, ⟨by first | exact Kd.R_nil _ _ _ _ _ | exact Kd.N_nil _ _ _ _ _ | exact Kd.V_nil _ _ _ _ _ | exact Kd.Q_nil _ _ _ _ _ | exact Kd.S_nil _ _ _ _ _⟩, ⟨by first | exact Kd.R_nil _ _ _ _ _ | exact Kd.N_nil _ _ _ _ _ | exact Kd.V_nil _ _ _ _ _ | exact Kd.Q_nil _ _ _ _ _ | exact Kd.S_nil _ _ _ _ _⟩, ⟨by first | exact Kd.R_nil _ _ _ _ _ | exact Kd.N_nil _ _ _ _ _ | exact Kd.V_nil _ _ _ _ _ | exact Kd.Q_nil _ _ _ _ _ | exact Kd.S_nil _ _ _ _ _⟩, ⟨by (with_reducible repeat (first | apply Kd.V_alloc | apply Kd.V_drewN | apply Kd.V_drew)); exact Kd.V_mono HO0.out (fun _ hk => ⟨hk, ⟨(by simp [Value.ownBlock]), ⟨(by simp [Value.ownBlock]), (by simp [Value.ownBlock])⟩⟩⟩)⟩, ⟨hz HB.out⟩⟩
 case round =>
  clear H'
  obtain ⟨x6_1, x7_1, x8_1, x17_1, rfl, HA, HK1, HO_6, HO_7, HO_8, HO_15, HB⟩ := hrel
  cases gk with
  | zero => exact absurd HA.out (by simp [examboardlaw49_written.l0])
  | succ k1 =>
   have H := HA.out
   clear HA
   simp only [examboardlaw49_written.l0] at H
   by_cases c2 : x17_1 < (l0.length : Int)
   ·
    rw [if_pos c2] at H
    have c2b0 : decide (x17_1 < (l0.length : Int)) = true := decide_eq_true c2
    clear c2
    replace H := it_ H
    obtain ⟨c3, H⟩ := H
    have c3b0 : decide (0 ≤ x17_1) = true := decide_eq_true c3
    clear c3
    replace H := it_ H
    obtain ⟨c4, H⟩ := H
    have c4b0 : decide (x17_1 < (l0.length : Int)) = true := decide_eq_true c4
    clear c4
    replace H := Option.bind_eq_some_iff.mp H
    obtain ⟨⟨t285, t288⟩, A50, H⟩ := H
    replace H : (if (x7_1.length : Int) = 10 then (examboardlaw49_written.l0 k1 x6_1 x7_1 x8_1 l0 (l0.length : Int) (wrap64 (x17_1 + 1))) else (if t288 = 0 then (if (t285.length : Int) > 2000 then (examboardlaw49_written.l0 k1 x6_1 x7_1 x8_1 l0 (l0.length : Int) (wrap64 (x17_1 + 1))) else ((journal_Append.f k1 x6_1 ((rd_T43 l0 x17_1).f0) ((rd_T43 l0 x17_1).f1) ((rd_T43 l0 x17_1).f2) ((rd_T43 l0 x17_1).f3) ((rd_T43 l0 x17_1).f4)).bind fun bt289 => (if bt289.2 = 0 then ((journal_Extends.f bt289.1 x6_1).bind fun t293 => (if t293 = true then (if (bt289.1.length : Int) = (wrap64 ((wrap64 ((x6_1.length : Int) + (t285.length : Int))) + 12)) then (if x7_1.length < 2199023255552 then (if x8_1.length < 17592186044416 then (examboardlaw49_written.l0 k1 bt289.1 (x7_1 ++ [(⟨(rd_T43 l0 x17_1).f0, (rd_T43 l0 x17_1).f1, (rd_T43 l0 x17_1).f2, (rd_T43 l0 x17_1).f3, (rd_T43 l0 x17_1).f4⟩ : S43)]) (x8_1 ++ [(bt289.1.length : Int)]) l0 (l0.length : Int) (wrap64 (x17_1 + 1))) else (none)) else (none)) else (none)) else (none))) else (none)))) else (examboardlaw49_written.l0 k1 x6_1 x7_1 x8_1 l0 (l0.length : Int) (wrap64 (x17_1 + 1))))) = some (r1, r2, r3, r4) := H
    have A5 := am A50
    clear A50
    by_cases c6 : (x7_1.length : Int) = 10
    ·
     rw [if_pos c6] at H
     have c6b0 : ((x7_1.length : Int) == 10) = true := beq_iff_eq.mpr c6
     have c6b1 : ((x7_1.length : Int) != 10) = false := bne_eq_false_iff_eq.mpr c6
     clear c6
     have H' := am H
     clear H
     have p283 : 0 ≤ (x17_1 : Int) := of_decide_eq_true az
     have q283 : x17_1 < (l0.length : Int) := of_decide_eq_true az
     obtain ⟨ad283, A283_4, c283_4, e283, hx283_0, hx283_1, hx283_2, hx283_3, hx283_4, hl283_4, hi283_4⟩ := at_T43 (Kd.V_reads' HO_15.out).2.2 x17_1 p283 q283
     cases e283
     obtain ⟨ce283, hce283, hMe283, hcc283⟩ := Kd.V_get HO_15.out z43 x17_1 p283 (by first | exact q283 | exact of_decide_eq_true az | (have e_ := (Kd.V_reads' HO_15.out).1; omega))
     obtain ⟨ua283_4, uc283_4, rfl, ul283_4, ge283_4⟩ := k43_openF hMe283
     have hv283_4 := hcc283 4 _ rfl
     rw [add_field _ _ 4 (by omega)] at hv283_4
     replace hv283_4 := Option.some.inj (hv283_4.symm.trans hx283_4)
     injection hv283_4 with hva_ hvn_ hvc_
     rw [hva_] at ge283_4
     rw [hvc_] at ul283_4
     have HL283_4 := am (show Kd.V k43 43 _ w.heap.size _ _ ((rd_T43 l0 x17_1).f4) from Kd.V_mk ul283_4 ge283_4)
     clear hva_ hvn_ hvc_ ge283_4 ul283_4
     clear hcc283 hce283
     have HR283_4 := am hi283_4
     have HC283_4 := am hl283_4
     clear hi283_4 hl283_4
     replace p283 := eq_true p283
     replace q283 := eq_true q283
     go_wp2_with (first | ((with_reducible refine gate_dst (N := 10) rfl ?_); (try (refine gate_guard (by rfl) ?_; dsimp only)); refine box_event rfl (N := 10) rfl (cs := #[.int .i64 0, .int .i64 0, .int .i64 0, .string (⟨#[]⟩ : ByteArray), .slice none 0 0]) (t := 43) gz ?_; intro gb284 hg w7 hbox hb; replace HO_6 := am (Kd.R_below (rz HO_6.out) hb); replace HO_7 := am (Kd.N_below (Kd.N_elderB (nz HO_7.out) gb284 (Nat.le_of_eq hg.symm)) hb); replace HO_8 := am (Kd.R_below (rz HO_8.out) hb); replace HO_15 := am (Kd.V_below (Kd.V_elderB (vz HO_15.out) gb284 (Nat.le_of_eq hg.symm)) hb); replace HL283_4 := am (Kd.V_below (Kd.V_elderB (vz HL283_4.out) gb284 (Nat.le_of_eq hg.symm)) hb); replace HR283_4 := am (Kd.C_below (cz HR283_4.out) hb); have BK284 := am (hbox); have GW284 := am ((bs hg (hz HB.out) : w.heap.size ≤ gb284)); have GE284 := am ((bs hg (hz HB.out) : w.heap.size ≤ gb284)); replace HB := am (below_step (hz HB.out) hb); clear hb hbox hg; obtain ⟨hcz8_0, hcz8_1, hcz8_2, hcz8_3, hcz8_4⟩ := cs5 BK284.out; obtain ⟨hfz8_0, hfz8_1, hfz8_2, hfz8_3, hfz8_4⟩ := fs5 BK284.out) | ((with_reducible refine gate_callee (f := 30) rfl ?_); refine goesL_ (some 23) rfl rfl Tryd.func30 (by kernel_rfl) rfl #[.agg #[.int .i64 ((rd_T43 l0 x17_1).f0), .int .i64 ((rd_T43 l0 x17_1).f1), .int .i64 ((rd_T43 l0 x17_1).f2), .string ((rd_T43 l0 x17_1).f3), .slice A283_4 ((rd_T43 l0 x17_1).f4).length c283_4]] rfl lz ?_; (with_reducible refine (codec_Encode.calls k1 ((rd_T43 l0 x17_1).f0) ((rd_T43 l0 x17_1).f1) ((rd_T43 l0 x17_1).f2) ((rd_T43 l0 x17_1).f3) _ _ ((rd_T43 l0 x17_1).f4) t285 t288 _ ?side1 ?side2 A5.out).mono ?_); (case side1 => repeat (first | exact ((Kd.V_reads' (vz (Kd.V_mono (Kd.V_far (p := ⟨gb284, 4, none⟩) (Kd.V_far (p := ⟨gb284, 3, none⟩) (Kd.V_far (p := ⟨gb284, 2, none⟩) (Kd.V_far (p := ⟨gb284, 1, none⟩) (Kd.V_far (p := ⟨gb284, 0, none⟩) (Kd.V_mono HL283_4.out (fun k_ hk => (⟨hk, hk.2⟩ : _ ∧ k_ ≠ gb284))) (fun _ hk => hk.2) (.int .i64 ((rd_T43 l0 x17_1).f0))) (fun _ hk => hk.2) (.int .i64 ((rd_T43 l0 x17_1).f1))) (fun _ hk => hk.2) (.int .i64 ((rd_T43 l0 x17_1).f2))) (fun _ hk => hk.2) (.string ((rd_T43 l0 x17_1).f3))) (fun _ hk => hk.2) (.slice A283_4 ((rd_T43 l0 x17_1).f4).length c283_4)) (fun _ h_ => h_.1)))).2.2) | (with_reducible refine Kd.C_alloc ?_ _) | (with_reducible refine Kd.C_drewN ?_ _) | (with_reducible refine Kd.C_drew ?_))); (case side2 => exact HC283_4.out); rintro e w9 ⟨v286, rfl, ho0, hb⟩; refine ⟨_, rfl, ?_⟩; replace HO_7 := am (Kd.N_elder' (nz (Kd.N_mono (Kd.N_far (p := ⟨gb284, 4, none⟩) (Kd.N_far (p := ⟨gb284, 3, none⟩) (Kd.N_far (p := ⟨gb284, 2, none⟩) (Kd.N_far (p := ⟨gb284, 1, none⟩) (Kd.N_far (p := ⟨gb284, 0, none⟩) (Kd.N_mono HO_7.out (fun k_ hk => (⟨hk, hk.2⟩ : _ ∧ k_ ≠ gb284))) (fun _ hk => hk.2) (.int .i64 ((rd_T43 l0 x17_1).f0))) (fun _ hk => hk.2) (.int .i64 ((rd_T43 l0 x17_1).f1))) (fun _ hk => hk.2) (.int .i64 ((rd_T43 l0 x17_1).f2))) (fun _ hk => hk.2) (.string ((rd_T43 l0 x17_1).f3))) (fun _ hk => hk.2) (.slice A283_4 ((rd_T43 l0 x17_1).f4).length c283_4)) (fun _ h_ => h_.1))) (Kd.R_base ho0) hb); replace HO_8 := am (Kd.R_below (rz (Kd.R_mono (Kd.R_far (p := ⟨gb284, 4, none⟩) (rfg4 HO_8.out BK284.out) (fun _ hk => hk.2) (.slice A283_4 ((rd_T43 l0 x17_1).f4).length c283_4)) (fun _ h_ => h_.1))) hb); replace HO_15 := am (Kd.V_elder' (vz (Kd.V_mono (Kd.V_far (p := ⟨gb284, 4, none⟩) (Kd.V_far (p := ⟨gb284, 3, none⟩) (Kd.V_far (p := ⟨gb284, 2, none⟩) (Kd.V_far (p := ⟨gb284, 1, none⟩) (Kd.V_far (p := ⟨gb284, 0, none⟩) (Kd.V_mono HO_15.out (fun k_ hk => (⟨hk, hk.2⟩ : _ ∧ k_ ≠ gb284))) (fun _ hk => hk.2) (.int .i64 ((rd_T43 l0 x17_1).f0))) (fun _ hk => hk.2) (.int .i64 ((rd_T43 l0 x17_1).f1))) (fun _ hk => hk.2) (.int .i64 ((rd_T43 l0 x17_1).f2))) (fun _ hk => hk.2) (.string ((rd_T43 l0 x17_1).f3))) (fun _ hk => hk.2) (.slice A283_4 ((rd_T43 l0 x17_1).f4).length c283_4)) (fun _ h_ => h_.1))) (Kd.R_base ho0) hb); have HO287 := am (Kd.R_lower (Kd.R_new' (Kd.R_newM (M := fun k_ => (w.heap.size ≤ k_)) ho0 (below_size (hz1 HB.out GE284.out)) (fun k_ h_ => h_)) (Kd.R_lt (rz (Kd.R_mono (Kd.R_far (p := ⟨gb284, 4, none⟩) (rfg4 HO_6.out BK284.out) (fun _ hk => hk.2) (.slice A283_4 ((rd_T43 l0 x17_1).f4).length c283_4)) (fun _ h_ => h_.1))))) (below_size (hz1 HB.out GE284.out))); replace HO_6 := am (Kd.R_elder' (rz (Kd.R_mono (Kd.R_far (p := ⟨gb284, 4, none⟩) (rfg4 HO_6.out BK284.out) (fun _ hk => hk.2) (.slice A283_4 ((rd_T43 l0 x17_1).f4).length c283_4)) (fun _ h_ => h_.1))) (Kd.R_base ho0) hb); replace HR283_4 := am (Kd.C_below ((Kd.V_reads' (vz (Kd.V_mono (Kd.V_far (p := ⟨gb284, 4, none⟩) (Kd.V_far (p := ⟨gb284, 3, none⟩) (Kd.V_far (p := ⟨gb284, 2, none⟩) (Kd.V_far (p := ⟨gb284, 1, none⟩) (Kd.V_far (p := ⟨gb284, 0, none⟩) (Kd.V_mono HL283_4.out (fun k_ hk => (⟨hk, hk.2⟩ : _ ∧ k_ ≠ gb284))) (fun _ hk => hk.2) (.int .i64 ((rd_T43 l0 x17_1).f0))) (fun _ hk => hk.2) (.int .i64 ((rd_T43 l0 x17_1).f1))) (fun _ hk => hk.2) (.int .i64 ((rd_T43 l0 x17_1).f2))) (fun _ hk => hk.2) (.string ((rd_T43 l0 x17_1).f3))) (fun _ hk => hk.2) (.slice A283_4 ((rd_T43 l0 x17_1).f4).length c283_4)) (fun _ h_ => h_.1)))).2.2) hb); replace HL283_4 := am (Kd.V_elder' (vz (Kd.V_mono (Kd.V_far (p := ⟨gb284, 4, none⟩) (Kd.V_far (p := ⟨gb284, 3, none⟩) (Kd.V_far (p := ⟨gb284, 2, none⟩) (Kd.V_far (p := ⟨gb284, 1, none⟩) (Kd.V_far (p := ⟨gb284, 0, none⟩) (Kd.V_mono HL283_4.out (fun k_ hk => (⟨hk, hk.2⟩ : _ ∧ k_ ≠ gb284))) (fun _ hk => hk.2) (.int .i64 ((rd_T43 l0 x17_1).f0))) (fun _ hk => hk.2) (.int .i64 ((rd_T43 l0 x17_1).f1))) (fun _ hk => hk.2) (.int .i64 ((rd_T43 l0 x17_1).f2))) (fun _ hk => hk.2) (.string ((rd_T43 l0 x17_1).f3))) (fun _ hk => hk.2) (.slice A283_4 ((rd_T43 l0 x17_1).f4).length c283_4)) (fun _ h_ => h_.1))) (Kd.R_base ho0) hb); replace BK284 := am (blk_below (g := gb284) (o := .cells #[.int .i64 ((rd_T43 l0 x17_1).f0), .int .i64 ((rd_T43 l0 x17_1).f1), .int .i64 ((rd_T43 l0 x17_1).f2), .string ((rd_T43 l0 x17_1).f3), .slice A283_4 ((rd_T43 l0 x17_1).f4).length c283_4] 43 (0, 0)) (bp BK284.out) hb); replace HB := am (below_step (hz1 HB.out GE284.out) hb); (try clear hb); (try clear hk); (try clear hi); (try clear ho0); obtain ⟨Ao10, co10, eo10⟩ := Kd.N_slice HO_7.out; subst eo10))
     go_roundg k1
     case measure => have := HK1.out; omega
     case rel => exact ⟨(x6_1), (x7_1), (x8_1), (wrap64 (x17_1 + 1)), (by first | rfl | (simp; done) | (simp [*]; done)), H', ⟨by have := HK1.out; omega⟩, ⟨by (with_reducible repeat (first | apply Kd.R_alloc | apply Kd.R_drewN | apply Kd.R_drew)); exact Kd.R_mono HO_6.out (fun _ hk => hk.1)⟩, ⟨by (with_reducible repeat (first | apply Kd.N_alloc | apply Kd.N_drewN | apply Kd.N_drew)); exact Kd.N_mono HO_7.out (fun _ hk => ⟨hk.1.1.1, ⟨hk.1.1.2.1, hk.1.1.2.2⟩⟩)⟩, ⟨by (with_reducible repeat (first | apply Kd.R_alloc | apply Kd.R_drewN | apply Kd.R_drew)); exact HO_8.out⟩, ⟨by (with_reducible repeat (first | apply Kd.V_alloc | apply Kd.V_drewN | apply Kd.V_drew)); exact Kd.V_mono HO_15.out (fun _ hk => ⟨hk.1.1.1, ⟨hk.1.1.2.1, ⟨hk.1.1.2.2.1, hk.1.1.2.2.2⟩⟩⟩)⟩, ⟨hz1 HB.out GE284.out⟩⟩
    ·
     rw [if_neg c6] at H
     have c6b0 : ((x7_1.length : Int) == 10) = false := beq_eq_false_iff_ne.mpr c6
     have c6b1 : ((x7_1.length : Int) != 10) = true := bne_iff_ne.mpr c6
     by_cases c11 : t288 = 0
     ·
      rw [if_pos c11] at H
      have c11b0 : (t288 == 0) = true := beq_iff_eq.mpr c11
      have c11b1 : (t288 != 0) = false := bne_eq_false_iff_eq.mpr c11
      clear c11
      by_cases c12 : (t285.length : Int) > 2000
      ·
       rw [if_pos c12] at H
       have c12b0 : decide (2000 < (t285.length : Int)) = true := decide_eq_true c12
       have c12b1 : decide (2000 < t285.length) = true := decide_eq_true (by omega)
       clear c12
       have H' := am H
       clear H
       have p283 : 0 ≤ (x17_1 : Int) := of_decide_eq_true az
       have q283 : x17_1 < (l0.length : Int) := of_decide_eq_true az
       obtain ⟨ad283, A283_4, c283_4, e283, hx283_0, hx283_1, hx283_2, hx283_3, hx283_4, hl283_4, hi283_4⟩ := at_T43 (Kd.V_reads' HO_15.out).2.2 x17_1 p283 q283
       cases e283
       obtain ⟨ce283, hce283, hMe283, hcc283⟩ := Kd.V_get HO_15.out z43 x17_1 p283 (by first | exact q283 | exact of_decide_eq_true az | (have e_ := (Kd.V_reads' HO_15.out).1; omega))
       obtain ⟨ua283_4, uc283_4, rfl, ul283_4, ge283_4⟩ := k43_openF hMe283
       have hv283_4 := hcc283 4 _ rfl
       rw [add_field _ _ 4 (by omega)] at hv283_4
       replace hv283_4 := Option.some.inj (hv283_4.symm.trans hx283_4)
       injection hv283_4 with hva_ hvn_ hvc_
       rw [hva_] at ge283_4
       rw [hvc_] at ul283_4
       have HL283_4 := am (show Kd.V k43 43 _ w.heap.size _ _ ((rd_T43 l0 x17_1).f4) from Kd.V_mk ul283_4 ge283_4)
       clear hva_ hvn_ hvc_ ge283_4 ul283_4
       clear hcc283 hce283
       have HR283_4 := am hi283_4
       have HC283_4 := am hl283_4
       clear hi283_4 hl283_4
       replace p283 := eq_true p283
       replace q283 := eq_true q283
       go_wp2_with (first | ((with_reducible refine gate_dst (N := 10) rfl ?_); (try (refine gate_guard (by rfl) ?_; dsimp only)); refine box_event rfl (N := 10) rfl (cs := #[.int .i64 0, .int .i64 0, .int .i64 0, .string (⟨#[]⟩ : ByteArray), .slice none 0 0]) (t := 43) gz ?_; intro gb284 hg w13 hbox hb; replace HO_6 := am (Kd.R_below (rz HO_6.out) hb); replace HO_7 := am (Kd.N_below (Kd.N_elderB (nz HO_7.out) gb284 (Nat.le_of_eq hg.symm)) hb); replace HO_8 := am (Kd.R_below (rz HO_8.out) hb); replace HO_15 := am (Kd.V_below (Kd.V_elderB (vz HO_15.out) gb284 (Nat.le_of_eq hg.symm)) hb); replace HL283_4 := am (Kd.V_below (Kd.V_elderB (vz HL283_4.out) gb284 (Nat.le_of_eq hg.symm)) hb); replace HR283_4 := am (Kd.C_below (cz HR283_4.out) hb); have BK284 := am (hbox); have GW284 := am ((bs hg (hz HB.out) : w.heap.size ≤ gb284)); have GE284 := am ((bs hg (hz HB.out) : w.heap.size ≤ gb284)); replace HB := am (below_step (hz HB.out) hb); clear hb hbox hg; obtain ⟨hcz14_0, hcz14_1, hcz14_2, hcz14_3, hcz14_4⟩ := cs5 BK284.out; obtain ⟨hfz14_0, hfz14_1, hfz14_2, hfz14_3, hfz14_4⟩ := fs5 BK284.out) | ((with_reducible refine gate_callee (f := 30) rfl ?_); refine goesL_ (some 23) rfl rfl Tryd.func30 (by kernel_rfl) rfl #[.agg #[.int .i64 ((rd_T43 l0 x17_1).f0), .int .i64 ((rd_T43 l0 x17_1).f1), .int .i64 ((rd_T43 l0 x17_1).f2), .string ((rd_T43 l0 x17_1).f3), .slice A283_4 ((rd_T43 l0 x17_1).f4).length c283_4]] rfl lz ?_; (with_reducible refine (codec_Encode.calls k1 ((rd_T43 l0 x17_1).f0) ((rd_T43 l0 x17_1).f1) ((rd_T43 l0 x17_1).f2) ((rd_T43 l0 x17_1).f3) _ _ ((rd_T43 l0 x17_1).f4) t285 t288 _ ?side1 ?side2 A5.out).mono ?_); (case side1 => repeat (first | exact ((Kd.V_reads' (vz (Kd.V_mono (Kd.V_far (p := ⟨gb284, 4, none⟩) (Kd.V_far (p := ⟨gb284, 3, none⟩) (Kd.V_far (p := ⟨gb284, 2, none⟩) (Kd.V_far (p := ⟨gb284, 1, none⟩) (Kd.V_far (p := ⟨gb284, 0, none⟩) (Kd.V_mono HL283_4.out (fun k_ hk => (⟨hk, hk.2⟩ : _ ∧ k_ ≠ gb284))) (fun _ hk => hk.2) (.int .i64 ((rd_T43 l0 x17_1).f0))) (fun _ hk => hk.2) (.int .i64 ((rd_T43 l0 x17_1).f1))) (fun _ hk => hk.2) (.int .i64 ((rd_T43 l0 x17_1).f2))) (fun _ hk => hk.2) (.string ((rd_T43 l0 x17_1).f3))) (fun _ hk => hk.2) (.slice A283_4 ((rd_T43 l0 x17_1).f4).length c283_4)) (fun _ h_ => h_.1)))).2.2) | (with_reducible refine Kd.C_alloc ?_ _) | (with_reducible refine Kd.C_drewN ?_ _) | (with_reducible refine Kd.C_drew ?_))); (case side2 => exact HC283_4.out); rintro e w15 ⟨v286, rfl, ho0, hb⟩; refine ⟨_, rfl, ?_⟩; replace HO_7 := am (Kd.N_elder' (nz (Kd.N_mono (Kd.N_far (p := ⟨gb284, 4, none⟩) (Kd.N_far (p := ⟨gb284, 3, none⟩) (Kd.N_far (p := ⟨gb284, 2, none⟩) (Kd.N_far (p := ⟨gb284, 1, none⟩) (Kd.N_far (p := ⟨gb284, 0, none⟩) (Kd.N_mono HO_7.out (fun k_ hk => (⟨hk, hk.2⟩ : _ ∧ k_ ≠ gb284))) (fun _ hk => hk.2) (.int .i64 ((rd_T43 l0 x17_1).f0))) (fun _ hk => hk.2) (.int .i64 ((rd_T43 l0 x17_1).f1))) (fun _ hk => hk.2) (.int .i64 ((rd_T43 l0 x17_1).f2))) (fun _ hk => hk.2) (.string ((rd_T43 l0 x17_1).f3))) (fun _ hk => hk.2) (.slice A283_4 ((rd_T43 l0 x17_1).f4).length c283_4)) (fun _ h_ => h_.1))) (Kd.R_base ho0) hb); replace HO_8 := am (Kd.R_below (rz (Kd.R_mono (Kd.R_far (p := ⟨gb284, 4, none⟩) (rfg4 HO_8.out BK284.out) (fun _ hk => hk.2) (.slice A283_4 ((rd_T43 l0 x17_1).f4).length c283_4)) (fun _ h_ => h_.1))) hb); replace HO_15 := am (Kd.V_elder' (vz (Kd.V_mono (Kd.V_far (p := ⟨gb284, 4, none⟩) (Kd.V_far (p := ⟨gb284, 3, none⟩) (Kd.V_far (p := ⟨gb284, 2, none⟩) (Kd.V_far (p := ⟨gb284, 1, none⟩) (Kd.V_far (p := ⟨gb284, 0, none⟩) (Kd.V_mono HO_15.out (fun k_ hk => (⟨hk, hk.2⟩ : _ ∧ k_ ≠ gb284))) (fun _ hk => hk.2) (.int .i64 ((rd_T43 l0 x17_1).f0))) (fun _ hk => hk.2) (.int .i64 ((rd_T43 l0 x17_1).f1))) (fun _ hk => hk.2) (.int .i64 ((rd_T43 l0 x17_1).f2))) (fun _ hk => hk.2) (.string ((rd_T43 l0 x17_1).f3))) (fun _ hk => hk.2) (.slice A283_4 ((rd_T43 l0 x17_1).f4).length c283_4)) (fun _ h_ => h_.1))) (Kd.R_base ho0) hb); have HO287 := am (Kd.R_lower (Kd.R_new' (Kd.R_newM (M := fun k_ => (w.heap.size ≤ k_)) ho0 (below_size (hz1 HB.out GE284.out)) (fun k_ h_ => h_)) (Kd.R_lt (rz (Kd.R_mono (Kd.R_far (p := ⟨gb284, 4, none⟩) (rfg4 HO_6.out BK284.out) (fun _ hk => hk.2) (.slice A283_4 ((rd_T43 l0 x17_1).f4).length c283_4)) (fun _ h_ => h_.1))))) (below_size (hz1 HB.out GE284.out))); replace HO_6 := am (Kd.R_elder' (rz (Kd.R_mono (Kd.R_far (p := ⟨gb284, 4, none⟩) (rfg4 HO_6.out BK284.out) (fun _ hk => hk.2) (.slice A283_4 ((rd_T43 l0 x17_1).f4).length c283_4)) (fun _ h_ => h_.1))) (Kd.R_base ho0) hb); replace HR283_4 := am (Kd.C_below ((Kd.V_reads' (vz (Kd.V_mono (Kd.V_far (p := ⟨gb284, 4, none⟩) (Kd.V_far (p := ⟨gb284, 3, none⟩) (Kd.V_far (p := ⟨gb284, 2, none⟩) (Kd.V_far (p := ⟨gb284, 1, none⟩) (Kd.V_far (p := ⟨gb284, 0, none⟩) (Kd.V_mono HL283_4.out (fun k_ hk => (⟨hk, hk.2⟩ : _ ∧ k_ ≠ gb284))) (fun _ hk => hk.2) (.int .i64 ((rd_T43 l0 x17_1).f0))) (fun _ hk => hk.2) (.int .i64 ((rd_T43 l0 x17_1).f1))) (fun _ hk => hk.2) (.int .i64 ((rd_T43 l0 x17_1).f2))) (fun _ hk => hk.2) (.string ((rd_T43 l0 x17_1).f3))) (fun _ hk => hk.2) (.slice A283_4 ((rd_T43 l0 x17_1).f4).length c283_4)) (fun _ h_ => h_.1)))).2.2) hb); replace HL283_4 := am (Kd.V_elder' (vz (Kd.V_mono (Kd.V_far (p := ⟨gb284, 4, none⟩) (Kd.V_far (p := ⟨gb284, 3, none⟩) (Kd.V_far (p := ⟨gb284, 2, none⟩) (Kd.V_far (p := ⟨gb284, 1, none⟩) (Kd.V_far (p := ⟨gb284, 0, none⟩) (Kd.V_mono HL283_4.out (fun k_ hk => (⟨hk, hk.2⟩ : _ ∧ k_ ≠ gb284))) (fun _ hk => hk.2) (.int .i64 ((rd_T43 l0 x17_1).f0))) (fun _ hk => hk.2) (.int .i64 ((rd_T43 l0 x17_1).f1))) (fun _ hk => hk.2) (.int .i64 ((rd_T43 l0 x17_1).f2))) (fun _ hk => hk.2) (.string ((rd_T43 l0 x17_1).f3))) (fun _ hk => hk.2) (.slice A283_4 ((rd_T43 l0 x17_1).f4).length c283_4)) (fun _ h_ => h_.1))) (Kd.R_base ho0) hb); replace BK284 := am (blk_below (g := gb284) (o := .cells #[.int .i64 ((rd_T43 l0 x17_1).f0), .int .i64 ((rd_T43 l0 x17_1).f1), .int .i64 ((rd_T43 l0 x17_1).f2), .string ((rd_T43 l0 x17_1).f3), .slice A283_4 ((rd_T43 l0 x17_1).f4).length c283_4] 43 (0, 0)) (bp BK284.out) hb); replace HB := am (below_step (hz1 HB.out GE284.out) hb); (try clear hb); (try clear hk); (try clear hi); (try clear ho0); obtain ⟨Ao16, co16, eo16⟩ := Kd.N_slice HO_7.out; subst eo16; obtain ⟨Ao17, co17, eo17⟩ := Kd.R_slice HO287.out; subst eo17))
       go_roundg k1
       case measure => have := HK1.out; omega
       case rel => exact ⟨(x6_1), (x7_1), (x8_1), (wrap64 (x17_1 + 1)), (by first | rfl | (simp; done) | (simp [*]; done)), H', ⟨by have := HK1.out; omega⟩, ⟨by (with_reducible repeat (first | apply Kd.R_alloc | apply Kd.R_drewN | apply Kd.R_drew)); exact Kd.R_mono HO_6.out (fun _ hk => hk.1)⟩, ⟨by (with_reducible repeat (first | apply Kd.N_alloc | apply Kd.N_drewN | apply Kd.N_drew)); exact Kd.N_mono HO_7.out (fun _ hk => ⟨hk.1.1.1, ⟨hk.1.1.2.1, hk.1.1.2.2⟩⟩)⟩, ⟨by (with_reducible repeat (first | apply Kd.R_alloc | apply Kd.R_drewN | apply Kd.R_drew)); exact HO_8.out⟩, ⟨by (with_reducible repeat (first | apply Kd.V_alloc | apply Kd.V_drewN | apply Kd.V_drew)); exact Kd.V_mono HO_15.out (fun _ hk => ⟨hk.1.1.1, ⟨hk.1.1.2.1, ⟨hk.1.1.2.2.1, hk.1.1.2.2.2⟩⟩⟩)⟩, ⟨hz1 HB.out GE284.out⟩⟩
      ·
       rw [if_neg c12] at H
       have c12b0 : decide (2000 < (t285.length : Int)) = false := decide_eq_false c12
       have c12b1 : decide (2000 < t285.length) = false := decide_eq_false (by omega)
       clear c12
       replace H := Option.bind_eq_some_iff.mp H
       obtain ⟨⟨t289, t292⟩, A180, H⟩ := H
       replace H : (if t292 = 0 then ((journal_Extends.f t289 x6_1).bind fun t293 => (if t293 = true then (if (t289.length : Int) = (wrap64 ((wrap64 ((x6_1.length : Int) + (t285.length : Int))) + 12)) then (if x7_1.length < 2199023255552 then (if x8_1.length < 17592186044416 then (examboardlaw49_written.l0 k1 t289 (x7_1 ++ [(⟨(rd_T43 l0 x17_1).f0, (rd_T43 l0 x17_1).f1, (rd_T43 l0 x17_1).f2, (rd_T43 l0 x17_1).f3, (rd_T43 l0 x17_1).f4⟩ : S43)]) (x8_1 ++ [(t289.length : Int)]) l0 (l0.length : Int) (wrap64 (x17_1 + 1))) else (none)) else (none)) else (none)) else (none))) else (none)) = some (r1, r2, r3, r4) := H
       have A18 := am A180
       clear A180
       replace H := it_ H
       obtain ⟨c19, H⟩ := H
       have c19b0 : (t292 == 0) = true := beq_iff_eq.mpr c19
       have c19b1 : (t292 != 0) = false := bne_eq_false_iff_eq.mpr c19
       clear c19
       replace H := Option.bind_eq_some_iff.mp H
       obtain ⟨t293, A200, H⟩ := H
       replace H : (if t293 = true then (if (t289.length : Int) = (wrap64 ((wrap64 ((x6_1.length : Int) + (t285.length : Int))) + 12)) then (if x7_1.length < 2199023255552 then (if x8_1.length < 17592186044416 then (examboardlaw49_written.l0 k1 t289 (x7_1 ++ [(⟨(rd_T43 l0 x17_1).f0, (rd_T43 l0 x17_1).f1, (rd_T43 l0 x17_1).f2, (rd_T43 l0 x17_1).f3, (rd_T43 l0 x17_1).f4⟩ : S43)]) (x8_1 ++ [(t289.length : Int)]) l0 (l0.length : Int) (wrap64 (x17_1 + 1))) else (none)) else (none)) else (none)) else (none)) = some (r1, r2, r3, r4) := H
       have A20 := am A200
       clear A200
       by_cases c21 : t293 = true
       ·
        subst c21
        have H1 : (if (t289.length : Int) = (wrap64 ((wrap64 ((x6_1.length : Int) + (t285.length : Int))) + 12)) then (if x7_1.length < 2199023255552 then (if x8_1.length < 17592186044416 then (examboardlaw49_written.l0 k1 t289 (x7_1 ++ [(⟨(rd_T43 l0 x17_1).f0, (rd_T43 l0 x17_1).f1, (rd_T43 l0 x17_1).f2, (rd_T43 l0 x17_1).f3, (rd_T43 l0 x17_1).f4⟩ : S43)]) (x8_1 ++ [(t289.length : Int)]) l0 (l0.length : Int) (wrap64 (x17_1 + 1))) else (none)) else (none)) else (none)) = some (r1, r2, r3, r4) := by rw [if_pos rfl] at H; exact H
        clear H
        have H := H1
        clear H1
        replace H := it_ H
        obtain ⟨c22, H⟩ := H
        have c22b0 : ((t289.length : Int) == (wrap64 ((wrap64 ((x6_1.length : Int) + (t285.length : Int))) + 12))) = true := beq_iff_eq.mpr c22
        have c22b1 : ((t289.length : Int) != (wrap64 ((wrap64 ((x6_1.length : Int) + (t285.length : Int))) + 12))) = false := bne_eq_false_iff_eq.mpr c22
        clear c22
        replace H := it_ H
        obtain ⟨c23, H⟩ := H
        have LMc23 := am c23
        clear c23
        obtain ⟨y294, hy294⟩ : ∃ y_ : List (S43), y_ = (x7_1 ++ [(⟨(rd_T43 l0 x17_1).f0, (rd_T43 l0 x17_1).f1, (rd_T43 l0 x17_1).f2, (rd_T43 l0 x17_1).f3, (rd_T43 l0 x17_1).f4⟩ : S43)]) := ⟨_, rfl⟩
        replace H : (if x8_1.length < 17592186044416 then (examboardlaw49_written.l0 k1 t289 y294 (x8_1 ++ [(t289.length : Int)]) l0 (l0.length : Int) (wrap64 (x17_1 + 1))) else (none)) = some (r1, r2, r3, r4) := by first | (rw [hy294]; with_reducible exact H) | (have H2_ := (Option.bind_some _ _).symm.trans H; rw [hy294]; with_reducible exact H2_) | (have H2_ := (Option.bind_some _ _).symm.trans H; with_reducible exact H2_) | with_reducible exact H | (rw [hy294]; exact H) | exact H
        have Ny294 := am hy294
        clear hy294
        replace H := it_ H
        obtain ⟨c24, H⟩ := H
        have LMc24 := am c24
        clear c24
        obtain ⟨y297, hy297⟩ : ∃ y_ : List Int, y_ = (x8_1 ++ [(t289.length : Int)]) := ⟨_, rfl⟩
        replace H : (examboardlaw49_written.l0 k1 t289 y294 y297 l0 (l0.length : Int) (wrap64 (x17_1 + 1))) = some (r1, r2, r3, r4) := by first | (rw [hy297]; with_reducible exact H) | (have H2_ := (Option.bind_some _ _).symm.trans H; rw [hy297]; with_reducible exact H2_) | (have H2_ := (Option.bind_some _ _).symm.trans H; with_reducible exact H2_) | with_reducible exact H | (rw [hy297]; exact H) | exact H
        have Ny297 := am hy297
        clear hy297
        have H' := am H
        clear H
        have p283 : 0 ≤ (x17_1 : Int) := of_decide_eq_true az
        have q283 : x17_1 < (l0.length : Int) := of_decide_eq_true az
        obtain ⟨ad283, A283_4, c283_4, e283, hx283_0, hx283_1, hx283_2, hx283_3, hx283_4, hl283_4, hi283_4⟩ := at_T43 (Kd.V_reads' HO_15.out).2.2 x17_1 p283 q283
        cases e283
        obtain ⟨ce283, hce283, hMe283, hcc283⟩ := Kd.V_get HO_15.out z43 x17_1 p283 (by first | exact q283 | exact of_decide_eq_true az | (have e_ := (Kd.V_reads' HO_15.out).1; omega))
        obtain ⟨ua283_4, uc283_4, rfl, ul283_4, ge283_4⟩ := k43_openF hMe283
        have hv283_4 := hcc283 4 _ rfl
        rw [add_field _ _ 4 (by omega)] at hv283_4
        replace hv283_4 := Option.some.inj (hv283_4.symm.trans hx283_4)
        injection hv283_4 with hva_ hvn_ hvc_
        rw [hva_] at ge283_4
        rw [hvc_] at ul283_4
        have HL283_4 := am (show Kd.V k43 43 _ w.heap.size _ _ ((rd_T43 l0 x17_1).f4) from Kd.V_mk ul283_4 ge283_4)
        clear hva_ hvn_ hvc_ ge283_4 ul283_4
        clear hcc283 hce283
        have HR283_4 := am hi283_4
        have HC283_4 := am hl283_4
        clear hi283_4 hl283_4
        replace p283 := eq_true p283
        replace q283 := eq_true q283
        go_wp2_with (first | ((with_reducible refine gate_dst (N := 10) rfl ?_); (try (refine gate_guard (by rfl) ?_; dsimp only)); refine box_event rfl (N := 10) rfl (cs := #[.int .i64 0, .int .i64 0, .int .i64 0, .string (⟨#[]⟩ : ByteArray), .slice none 0 0]) (t := 43) gz ?_; intro gb284 hg w25 hbox hb; replace HO_6 := am (Kd.R_below (rz HO_6.out) hb); replace HO_7 := am (Kd.N_below (Kd.N_elderB (nz HO_7.out) gb284 (Nat.le_of_eq hg.symm)) hb); replace HO_8 := am (Kd.R_below (rz HO_8.out) hb); replace HO_15 := am (Kd.V_below (Kd.V_elderB (vz HO_15.out) gb284 (Nat.le_of_eq hg.symm)) hb); replace HL283_4 := am (Kd.V_below (Kd.V_elderB (vz HL283_4.out) gb284 (Nat.le_of_eq hg.symm)) hb); replace HR283_4 := am (Kd.C_below (cz HR283_4.out) hb); have BK284 := am (hbox); have GW284 := am ((bs hg (hz HB.out) : w.heap.size ≤ gb284)); have GE284 := am ((bs hg (hz HB.out) : w.heap.size ≤ gb284)); replace HB := am (below_step (hz HB.out) hb); clear hb hbox hg; obtain ⟨hcz26_0, hcz26_1, hcz26_2, hcz26_3, hcz26_4⟩ := cs5 BK284.out; obtain ⟨hfz26_0, hfz26_1, hfz26_2, hfz26_3, hfz26_4⟩ := fs5 BK284.out) | ((with_reducible refine gate_callee (f := 30) rfl ?_); refine goesL_ (some 23) rfl rfl Tryd.func30 (by kernel_rfl) rfl #[.agg #[.int .i64 ((rd_T43 l0 x17_1).f0), .int .i64 ((rd_T43 l0 x17_1).f1), .int .i64 ((rd_T43 l0 x17_1).f2), .string ((rd_T43 l0 x17_1).f3), .slice A283_4 ((rd_T43 l0 x17_1).f4).length c283_4]] rfl lz ?_; (with_reducible refine (codec_Encode.calls k1 ((rd_T43 l0 x17_1).f0) ((rd_T43 l0 x17_1).f1) ((rd_T43 l0 x17_1).f2) ((rd_T43 l0 x17_1).f3) _ _ ((rd_T43 l0 x17_1).f4) t285 t288 _ ?side1 ?side2 A5.out).mono ?_); (case side1 => repeat (first | exact ((Kd.V_reads' (vz (Kd.V_mono (Kd.V_far (p := ⟨gb284, 4, none⟩) (Kd.V_far (p := ⟨gb284, 3, none⟩) (Kd.V_far (p := ⟨gb284, 2, none⟩) (Kd.V_far (p := ⟨gb284, 1, none⟩) (Kd.V_far (p := ⟨gb284, 0, none⟩) (Kd.V_mono HL283_4.out (fun k_ hk => (⟨hk, hk.2⟩ : _ ∧ k_ ≠ gb284))) (fun _ hk => hk.2) (.int .i64 ((rd_T43 l0 x17_1).f0))) (fun _ hk => hk.2) (.int .i64 ((rd_T43 l0 x17_1).f1))) (fun _ hk => hk.2) (.int .i64 ((rd_T43 l0 x17_1).f2))) (fun _ hk => hk.2) (.string ((rd_T43 l0 x17_1).f3))) (fun _ hk => hk.2) (.slice A283_4 ((rd_T43 l0 x17_1).f4).length c283_4)) (fun _ h_ => h_.1)))).2.2) | (with_reducible refine Kd.C_alloc ?_ _) | (with_reducible refine Kd.C_drewN ?_ _) | (with_reducible refine Kd.C_drew ?_))); (case side2 => exact HC283_4.out); rintro e w27 ⟨v286, rfl, ho0, hb⟩; refine ⟨_, rfl, ?_⟩; replace HO_7 := am (Kd.N_elder' (nz (Kd.N_mono (Kd.N_far (p := ⟨gb284, 4, none⟩) (Kd.N_far (p := ⟨gb284, 3, none⟩) (Kd.N_far (p := ⟨gb284, 2, none⟩) (Kd.N_far (p := ⟨gb284, 1, none⟩) (Kd.N_far (p := ⟨gb284, 0, none⟩) (Kd.N_mono HO_7.out (fun k_ hk => (⟨hk, hk.2⟩ : _ ∧ k_ ≠ gb284))) (fun _ hk => hk.2) (.int .i64 ((rd_T43 l0 x17_1).f0))) (fun _ hk => hk.2) (.int .i64 ((rd_T43 l0 x17_1).f1))) (fun _ hk => hk.2) (.int .i64 ((rd_T43 l0 x17_1).f2))) (fun _ hk => hk.2) (.string ((rd_T43 l0 x17_1).f3))) (fun _ hk => hk.2) (.slice A283_4 ((rd_T43 l0 x17_1).f4).length c283_4)) (fun _ h_ => h_.1))) (Kd.R_base ho0) hb); replace HO_8 := am (Kd.R_below (rz (Kd.R_mono (Kd.R_far (p := ⟨gb284, 4, none⟩) (rfg4 HO_8.out BK284.out) (fun _ hk => hk.2) (.slice A283_4 ((rd_T43 l0 x17_1).f4).length c283_4)) (fun _ h_ => h_.1))) hb); replace HO_15 := am (Kd.V_elder' (vz (Kd.V_mono (Kd.V_far (p := ⟨gb284, 4, none⟩) (Kd.V_far (p := ⟨gb284, 3, none⟩) (Kd.V_far (p := ⟨gb284, 2, none⟩) (Kd.V_far (p := ⟨gb284, 1, none⟩) (Kd.V_far (p := ⟨gb284, 0, none⟩) (Kd.V_mono HO_15.out (fun k_ hk => (⟨hk, hk.2⟩ : _ ∧ k_ ≠ gb284))) (fun _ hk => hk.2) (.int .i64 ((rd_T43 l0 x17_1).f0))) (fun _ hk => hk.2) (.int .i64 ((rd_T43 l0 x17_1).f1))) (fun _ hk => hk.2) (.int .i64 ((rd_T43 l0 x17_1).f2))) (fun _ hk => hk.2) (.string ((rd_T43 l0 x17_1).f3))) (fun _ hk => hk.2) (.slice A283_4 ((rd_T43 l0 x17_1).f4).length c283_4)) (fun _ h_ => h_.1))) (Kd.R_base ho0) hb); have HO287 := am (Kd.R_lower (Kd.R_new' (Kd.R_newM (M := fun k_ => (w.heap.size ≤ k_)) ho0 (below_size (hz1 HB.out GE284.out)) (fun k_ h_ => h_)) (Kd.R_lt (rz (Kd.R_mono (Kd.R_far (p := ⟨gb284, 4, none⟩) (rfg4 HO_6.out BK284.out) (fun _ hk => hk.2) (.slice A283_4 ((rd_T43 l0 x17_1).f4).length c283_4)) (fun _ h_ => h_.1))))) (below_size (hz1 HB.out GE284.out))); replace HO_6 := am (Kd.R_elder' (rz (Kd.R_mono (Kd.R_far (p := ⟨gb284, 4, none⟩) (rfg4 HO_6.out BK284.out) (fun _ hk => hk.2) (.slice A283_4 ((rd_T43 l0 x17_1).f4).length c283_4)) (fun _ h_ => h_.1))) (Kd.R_base ho0) hb); replace HR283_4 := am (Kd.C_below ((Kd.V_reads' (vz (Kd.V_mono (Kd.V_far (p := ⟨gb284, 4, none⟩) (Kd.V_far (p := ⟨gb284, 3, none⟩) (Kd.V_far (p := ⟨gb284, 2, none⟩) (Kd.V_far (p := ⟨gb284, 1, none⟩) (Kd.V_far (p := ⟨gb284, 0, none⟩) (Kd.V_mono HL283_4.out (fun k_ hk => (⟨hk, hk.2⟩ : _ ∧ k_ ≠ gb284))) (fun _ hk => hk.2) (.int .i64 ((rd_T43 l0 x17_1).f0))) (fun _ hk => hk.2) (.int .i64 ((rd_T43 l0 x17_1).f1))) (fun _ hk => hk.2) (.int .i64 ((rd_T43 l0 x17_1).f2))) (fun _ hk => hk.2) (.string ((rd_T43 l0 x17_1).f3))) (fun _ hk => hk.2) (.slice A283_4 ((rd_T43 l0 x17_1).f4).length c283_4)) (fun _ h_ => h_.1)))).2.2) hb); replace HL283_4 := am (Kd.V_elder' (vz (Kd.V_mono (Kd.V_far (p := ⟨gb284, 4, none⟩) (Kd.V_far (p := ⟨gb284, 3, none⟩) (Kd.V_far (p := ⟨gb284, 2, none⟩) (Kd.V_far (p := ⟨gb284, 1, none⟩) (Kd.V_far (p := ⟨gb284, 0, none⟩) (Kd.V_mono HL283_4.out (fun k_ hk => (⟨hk, hk.2⟩ : _ ∧ k_ ≠ gb284))) (fun _ hk => hk.2) (.int .i64 ((rd_T43 l0 x17_1).f0))) (fun _ hk => hk.2) (.int .i64 ((rd_T43 l0 x17_1).f1))) (fun _ hk => hk.2) (.int .i64 ((rd_T43 l0 x17_1).f2))) (fun _ hk => hk.2) (.string ((rd_T43 l0 x17_1).f3))) (fun _ hk => hk.2) (.slice A283_4 ((rd_T43 l0 x17_1).f4).length c283_4)) (fun _ h_ => h_.1))) (Kd.R_base ho0) hb); replace BK284 := am (blk_below (g := gb284) (o := .cells #[.int .i64 ((rd_T43 l0 x17_1).f0), .int .i64 ((rd_T43 l0 x17_1).f1), .int .i64 ((rd_T43 l0 x17_1).f2), .string ((rd_T43 l0 x17_1).f3), .slice A283_4 ((rd_T43 l0 x17_1).f4).length c283_4] 43 (0, 0)) (bp BK284.out) hb); replace HB := am (below_step (hz1 HB.out GE284.out) hb); (try clear hb); (try clear hk); (try clear hi); (try clear ho0); obtain ⟨Ao28, co28, eo28⟩ := Kd.N_slice HO_7.out; subst eo28; obtain ⟨Ao29, co29, eo29⟩ := Kd.R_slice HO287.out; subst eo29; obtain ⟨hcz30_0, hcz30_1, hcz30_2, hcz30_3, hcz30_4⟩ := cs5 BK284.out; obtain ⟨hfz30_0, hfz30_1, hfz30_2, hfz30_3, hfz30_4⟩ := fs5 BK284.out; obtain ⟨Ao31, co31, eo31⟩ := Kd.R_slice HO_6.out; subst eo31) | ((with_reducible refine gate_callee (f := 19) rfl ?_); refine goesL_ (some 41) rfl rfl Tryd.func19 (by kernel_rfl) rfl #[.slice Ao31 x6_1.length co31, .agg #[.int .i64 ((rd_T43 l0 x17_1).f0), .int .i64 ((rd_T43 l0 x17_1).f1), .int .i64 ((rd_T43 l0 x17_1).f2), .string ((rd_T43 l0 x17_1).f3), .slice A283_4 ((rd_T43 l0 x17_1).f4).length c283_4]] rfl lz ?_; (with_reducible refine (journal_Append.calls k1 _ _ x6_1 ((rd_T43 l0 x17_1).f0) ((rd_T43 l0 x17_1).f1) ((rd_T43 l0 x17_1).f2) ((rd_T43 l0 x17_1).f3) _ _ ((rd_T43 l0 x17_1).f4) t289 t292 _ ?sideG ?side1 ?side2 ?side3 ?side4 A18.out).mono ?_); (case sideG => exact gle HG_.out (hz1 HB.out GE284.out)); (case side1 => repeat (first | exact (Kd.R_reads' HO_6.out).2.2 | (with_reducible refine Kd.C_alloc ?_ _) | (with_reducible refine Kd.C_drewN ?_ _) | (with_reducible refine Kd.C_drew ?_))); (case side2 => exact (Kd.R_reads' HO_6.out).2.1); (case side3 => repeat (first | exact (cz HR283_4.out) | (with_reducible refine Kd.C_alloc ?_ _) | (with_reducible refine Kd.C_drewN ?_ _) | (with_reducible refine Kd.C_drew ?_))); (case side4 => exact HC283_4.out); rintro e w32 ⟨v290, rfl, ho0, hb⟩; refine ⟨_, rfl, ?_⟩; replace HO_7 := am (Kd.N_elder' (nz HO_7.out) (Kd.R_base ho0) hb); replace HO_8 := am (Kd.R_below (rz HO_8.out) hb); replace HO_15 := am (Kd.V_elder' (vz HO_15.out) (Kd.R_base ho0) hb); replace HL283_4 := am (Kd.V_elder' (vz HL283_4.out) (Kd.R_base ho0) hb); have HO291 := am (Kd.R_lower (Kd.R_new' (Kd.R_new' (Kd.R_newM (M := fun k_ => (w.heap.size ≤ k_)) ho0 (below_size (hz1 HB.out GE284.out)) (fun k_ h_ => h_)) (Kd.R_lt (rz HO_6.out))) (Kd.R_lt (rz HO287.out))) (below_size (hz1 HB.out GE284.out))); replace HO_6 := am (Kd.R_elder' (rz HO_6.out) (Kd.R_base ho0) hb); replace HO287 := am (Kd.R_elder' (rz HO287.out) (Kd.R_base ho0) hb); replace HR283_4 := am (Kd.C_below (cz HR283_4.out) hb); replace BK284 := am (blk_below (bz BK284.out) hb); replace HB := am (below_step (hz1 HB.out GE284.out) hb); (try clear hb); (try clear hk); (try clear hi); (try clear ho0); obtain ⟨Ao33, co33, eo33⟩ := Kd.R_slice HO291.out; subst eo33) | (go_at_call 17; (with_reducible refine (journal_Extends.calls _ _ t289 _ _ x6_1 true _ ?side1 ?side2 ?side3 ?side4 A20.out).mono ?_); (case side1 => repeat (first | exact (Kd.R_reads' HO291.out).2.2 | (with_reducible refine Kd.C_alloc ?_ _) | (with_reducible refine Kd.C_drewN ?_ _) | (with_reducible refine Kd.C_drew ?_))); (case side2 => exact (Kd.R_reads' HO291.out).2.1); (case side3 => repeat (first | exact (Kd.R_reads' HO_6.out).2.2 | (with_reducible refine Kd.C_alloc ?_ _) | (with_reducible refine Kd.C_drewN ?_ _) | (with_reducible refine Kd.C_drew ?_))); (case side4 => exact (Kd.R_reads' HO_6.out).2.1); rintro e w' ⟨rfl, ⟨nd, rfl⟩⟩; obtain ⟨hcz34_0, hcz34_1, hcz34_2, hcz34_3, hcz34_4⟩ := cs5 BK284.out; obtain ⟨hfz34_0, hfz34_1, hfz34_2, hfz34_3, hfz34_4⟩ := fs5 BK284.out) | ((with_reducible refine gate_builtin (b := .append) (xs := #[.tmp 64, .tmp 66]) rfl ?_); (try (refine gate_guard (by rfl) ?_; dsimp only)); at_builtin; refine Kd.N_append k43 (w0 := w) w.heap.size rfl (.tmp 64) (.tmp 66) 22 43 (.agg #[(.int .i64 0), (.int .i64 0), (.int .i64 0), (.string ⟨#[]⟩), (.slice none 0 0)]) 64 rfl Tryd.underlying22 info43 rfl (by decide) (by omega) (.slice Ao28 x7_1.length co28) x7_1 (⟨(rd_T43 l0 x17_1).f0, (rd_T43 l0 x17_1).f1, (rd_T43 l0 x17_1).f2, (rd_T43 l0 x17_1).f3, (rd_T43 l0 x17_1).f4⟩ : S43) [.int .i64 ((rd_T43 l0 x17_1).f0), .int .i64 ((rd_T43 l0 x17_1).f1), .int .i64 ((rd_T43 l0 x17_1).f2), .string ((rd_T43 l0 x17_1).f3), .slice A283_4 ((rd_T43 l0 x17_1).f4).length c283_4] (fun k_ => (P0_ k_ ∨ w.heap.size ≤ k_) ∧ some k_ ≠ (.slice Ao31 x6_1.length co31 : Value).ownBlock ∧ some k_ ≠ (u8 : Value).ownBlock ∧ some k_ ≠ (.slice Ao29 t285.length co29 : Value).ownBlock ∧ some k_ ≠ (.slice Ao33 t289.length co33 : Value).ownBlock ∧ k_ ≠ gb284) (fun k_ => ((fun k_ => (P0_ k_ ∨ w.heap.size ≤ k_) ∧ some k_ ≠ (.slice Ao31 x6_1.length co31 : Value).ownBlock ∧ some k_ ≠ (u8 : Value).ownBlock ∧ some k_ ≠ (.slice Ao29 t285.length co29 : Value).ownBlock ∧ some k_ ≠ (.slice Ao33 t289.length co33 : Value).ownBlock ∧ k_ ≠ gb284)) k_ ∧ some k_ ≠ (.slice Ao28 x7_1.length co28 : Value).ownBlock) rfl rfl ?aP (fun _ hk => hk) ?aF ?aO ?aB ?aS ?aL ?_; (case aP => exact (k43_mkF _ _ (⟨(rd_T43 l0 x17_1).f0, (rd_T43 l0 x17_1).f1, (rd_T43 l0 x17_1).f2, (rd_T43 l0 x17_1).f3, (rd_T43 l0 x17_1).f4⟩ : S43) (Kd.V_reads' (Kd.V_mono (ok' := (fun k_ => ((fun k_ => (P0_ k_ ∨ w.heap.size ≤ k_) ∧ some k_ ≠ (.slice Ao31 x6_1.length co31 : Value).ownBlock ∧ some k_ ≠ (u8 : Value).ownBlock ∧ some k_ ≠ (.slice Ao29 t285.length co29 : Value).ownBlock ∧ some k_ ≠ (.slice Ao33 t289.length co33 : Value).ownBlock ∧ k_ ≠ gb284)) k_ ∧ some k_ ≠ (.slice Ao28 x7_1.length co28 : Value).ownBlock)) (HL283_4.out) (fun k_ hk => ⟨⟨hk.1.1.1.1, ⟨hk.1.1.1.2.1, ⟨hk.1.1.1.2.2.2, ⟨hk.1.2, ⟨hk.2, hk.1.1.2⟩⟩⟩⟩⟩, hk.1.1.1.2.2.1⟩))).2.1 (Kd.V_F (vz (Kd.V_mono (ok' := (fun k_ => ((fun k_ => (P0_ k_ ∨ w.heap.size ≤ k_) ∧ some k_ ≠ (.slice Ao31 x6_1.length co31 : Value).ownBlock ∧ some k_ ≠ (u8 : Value).ownBlock ∧ some k_ ≠ (.slice Ao29 t285.length co29 : Value).ownBlock ∧ some k_ ≠ (.slice Ao33 t289.length co33 : Value).ownBlock ∧ k_ ≠ gb284)) k_ ∧ some k_ ≠ (.slice Ao28 x7_1.length co28 : Value).ownBlock)) (HL283_4.out) (fun k_ hk => ⟨⟨hk.1.1.1.1, ⟨hk.1.1.1.2.1, ⟨hk.1.1.1.2.2.2, ⟨hk.1.2, ⟨hk.2, hk.1.1.2⟩⟩⟩⟩⟩, hk.1.1.1.2.2.1⟩)))))); (case aB => exact (hz1 HB.out GE284.out)); (case aF => exact (fun k_ hk => ⟨(.inr (Nat.le_trans (below_size (hz1 HB.out GE284.out)) hk)), Kd.fresh' (Kd.R_lt (rz HO_6.out)) k_ hk, Kd.fresh' (Kd.R_lt (rz HO_8.out)) k_ hk, Kd.fresh' (Kd.R_lt (rz HO287.out)) k_ hk, Kd.fresh' (Kd.R_lt (rz HO291.out)) k_ hk, Kd.freshB (g := gb284) (o := .cells #[.int .i64 ((rd_T43 l0 x17_1).f0), .int .i64 ((rd_T43 l0 x17_1).f1), .int .i64 ((rd_T43 l0 x17_1).f2), .string ((rd_T43 l0 x17_1).f3), .slice A283_4 ((rd_T43 l0 x17_1).f4).length c283_4] 43 (0, 0)) (bz BK284.out) k_ hk⟩)); (case aO => exact (nz (Kd.N_mono HO_7.out (fun _ hk => ⟨hk.1.1.1.1, ⟨hk.1.1.1.2.1, ⟨hk.1.1.1.2.2, ⟨hk.1.2, ⟨hk.2, hk.1.1.2⟩⟩⟩⟩⟩)))); (case aS => exact (below_size (hz1 HB.out GE284.out))); (case aL => have := LMc23.out; omega); intro v295 w35 ho hb hg hat; rw [← Ny294.out] at ho; replace HO_6 := am (Kd.R_over' (rz HO_6.out) (Kd.N_typed (nz HO_7.out)) (by decide) hg); replace HO_8 := am (Kd.R_over' (rz HO_8.out) (Kd.N_typed (nz HO_7.out)) (by decide) hg); replace HO_15 := am (Kd.V_afterv (ok := (fun k_ => (P0_ k_ ∨ w.heap.size ≤ k_) ∧ some k_ ≠ (.slice Ao31 x6_1.length co31 : Value).ownBlock ∧ some k_ ≠ (u8 : Value).ownBlock ∧ some k_ ≠ (.slice Ao29 t285.length co29 : Value).ownBlock ∧ some k_ ≠ (.slice Ao33 t289.length co33 : Value).ownBlock ∧ k_ ≠ gb284)) (vz (Kd.V_mono HO_15.out (fun _ hk => ⟨⟨hk.1.1.1.1, ⟨hk.1.1.1.2.1, ⟨hk.1.1.1.2.2.2, ⟨hk.1.2, ⟨hk.2, hk.1.1.2⟩⟩⟩⟩⟩, hk.1.1.1.2.2.1⟩))) hg hat); replace HL283_4 := am (Kd.V_afterv (ok := (fun k_ => (P0_ k_ ∨ w.heap.size ≤ k_) ∧ some k_ ≠ (.slice Ao31 x6_1.length co31 : Value).ownBlock ∧ some k_ ≠ (u8 : Value).ownBlock ∧ some k_ ≠ (.slice Ao29 t285.length co29 : Value).ownBlock ∧ some k_ ≠ (.slice Ao33 t289.length co33 : Value).ownBlock ∧ k_ ≠ gb284)) (vz (Kd.V_mono HL283_4.out (fun _ hk => ⟨⟨hk.1.1.1.1, ⟨hk.1.1.1.2.1, ⟨hk.1.1.1.2.2.2, ⟨hk.1.2, ⟨hk.2, hk.1.1.2⟩⟩⟩⟩⟩, hk.1.1.1.2.2.1⟩))) hg hat); replace BK284 := am (blk_grown (bz BK284.out) hg (Kd.N_away HO_7.out (fun _ hk => hk.1.1.2))); replace HO287 := am (Kd.R_over' (rz HO287.out) (Kd.N_typed (nz HO_7.out)) (by decide) hg); replace HO291 := am (Kd.R_over' (rz HO291.out) (Kd.N_typed (nz HO_7.out)) (by decide) hg); replace HB := am (hb); have HO296 := am (ho); clear HO_7; clear ho hb hg hat) | ((with_reducible refine gate_builtin (b := .append) (xs := #[.tmp 68, .tmp 71]) rfl ?_); (try (refine gate_guard (by rfl) ?_; dsimp only)); at_builtin; refine Kd.R_append (Kd.int .i64) (w0 := w) w.heap.size rfl (.tmp 68) (.tmp 71) 25 3 (.int .i64 0) 8 rfl Tryd.underlying25 info3 rfl (by decide) (by omega) u8 x8_1 (t289.length : Int) [.int .i64 (t289.length : Int)] (fun k_ => (w.heap.size ≤ k_)) (fun _ => False) rfl rfl ?aP (fun _ hk => hk.elim) ?aF ?aO ?aB ?aS ?aL ?_; (case aP => exact rfl); (case aB => exact (hz1 HB.out GE284.out)); (case aF => exact (fun k_ hk => (Nat.le_trans (below_size (hz1 HB.out GE284.out)) hk))); (case aO => exact (rz HO_8.out)); (case aS => exact (below_size (hz1 HB.out GE284.out))); (case aL => have := LMc24.out; omega); intro v298 w36 ho hb hg hat; rw [← Ny297.out] at ho; replace HO_6 := am (Kd.R_over' (rz HO_6.out) (Kd.R_typed (rz HO_8.out)) (by decide) hg); replace HO_15 := am (Kd.V_afterv (ok := (fun k_ => (P0_ k_ ∨ w.heap.size ≤ k_) ∧ some k_ ≠ (.slice Ao31 x6_1.length co31 : Value).ownBlock ∧ some k_ ≠ (.slice Ao29 t285.length co29 : Value).ownBlock ∧ some k_ ≠ (.slice Ao33 t289.length co33 : Value).ownBlock ∧ some k_ ≠ (v295 : Value).ownBlock ∧ k_ ≠ gb284)) (vz (Kd.V_mono HO_15.out (fun _ hk => ⟨⟨hk.1.1, ⟨hk.1.2.1, ⟨hk.1.2.2.2.1, ⟨hk.1.2.2.2.2.1, ⟨hk.2, hk.1.2.2.2.2.2⟩⟩⟩⟩⟩, hk.1.2.2.1⟩))) hg hat); replace HL283_4 := am (Kd.V_afterv (ok := (fun k_ => (P0_ k_ ∨ w.heap.size ≤ k_) ∧ some k_ ≠ (.slice Ao31 x6_1.length co31 : Value).ownBlock ∧ some k_ ≠ (.slice Ao29 t285.length co29 : Value).ownBlock ∧ some k_ ≠ (.slice Ao33 t289.length co33 : Value).ownBlock ∧ some k_ ≠ (v295 : Value).ownBlock ∧ k_ ≠ gb284)) (vz (Kd.V_mono HL283_4.out (fun _ hk => ⟨⟨hk.1.1, ⟨hk.1.2.1, ⟨hk.1.2.2.2.1, ⟨hk.1.2.2.2.2.1, ⟨hk.2, hk.1.2.2.2.2.2⟩⟩⟩⟩⟩, hk.1.2.2.1⟩))) hg hat); replace BK284 := am (blk_grown (bz BK284.out) hg (Kd.R_ne HO_8.out BK284.out (by decide))); replace HO287 := am (Kd.R_over' (rz HO287.out) (Kd.R_typed (rz HO_8.out)) (by decide) hg); replace HO291 := am (Kd.R_over' (rz HO291.out) (Kd.R_typed (rz HO_8.out)) (by decide) hg); replace HO296 := am (Kd.N_afterv (ok := (fun k_ => (P0_ k_ ∨ w.heap.size ≤ k_) ∧ some k_ ≠ (.slice Ao31 x6_1.length co31 : Value).ownBlock ∧ some k_ ≠ (.slice Ao29 t285.length co29 : Value).ownBlock ∧ some k_ ≠ (.slice Ao33 t289.length co33 : Value).ownBlock ∧ k_ ≠ gb284)) (nz (Kd.N_mono HO296.out (fun _ hk => ⟨⟨hk.1, ⟨hk.2.1, ⟨hk.2.2.2.1, ⟨hk.2.2.2.2.1, hk.2.2.2.2.2⟩⟩⟩⟩, hk.2.2.1⟩))) hg hat); replace HB := am (hb); have HO299 := am (ho); clear HO_8; clear ho hb hg hat))
        go_roundg k1
        case measure => have := HK1.out; omega
        case rel => exact ⟨(t289), (y294), (y297), (wrap64 (x17_1 + 1)), (by first | rfl | (simp; done) | (simp [*]; done)), H', ⟨by have := HK1.out; omega⟩, ⟨by (with_reducible repeat (first | apply Kd.R_alloc | apply Kd.R_drewN | apply Kd.R_drew)); exact Kd.R_mono HO291.out (fun _ hk => hk.1.1.1)⟩, ⟨by (with_reducible repeat (first | apply Kd.N_alloc | apply Kd.N_drewN | apply Kd.N_drew)); exact Kd.N_mono HO296.out (fun _ hk => ⟨hk.1.1, ⟨hk.1.2.2.2.1, hk.2⟩⟩)⟩, ⟨by (with_reducible repeat (first | apply Kd.R_alloc | apply Kd.R_drewN | apply Kd.R_drew)); exact HO299.out⟩, ⟨by (with_reducible repeat (first | apply Kd.V_alloc | apply Kd.V_drewN | apply Kd.V_drew)); exact Kd.V_mono HO_15.out (fun _ hk => ⟨hk.1.1, ⟨hk.1.2.2.2.1, ⟨hk.1.2.2.2.2.1, hk.2⟩⟩⟩)⟩, ⟨hz1 HB.out GE284.out⟩⟩
       ·
        replace c21 := Bool.eq_false_iff.mpr c21
        subst c21
        have H1 : (none) = some (r1, r2, r3, r4) := by rw [if_neg (show ¬ (false = true) by decide)] at H; exact H
        clear H
        have H := H1
        clear H1
        exact absurd H (by simp)
     ·
      rw [if_neg c11] at H
      have c11b0 : (t288 == 0) = false := beq_eq_false_iff_ne.mpr c11
      have c11b1 : (t288 != 0) = true := bne_iff_ne.mpr c11
      have H' := am H
      clear H
      have p283 : 0 ≤ (x17_1 : Int) := of_decide_eq_true az
      have q283 : x17_1 < (l0.length : Int) := of_decide_eq_true az
      obtain ⟨ad283, A283_4, c283_4, e283, hx283_0, hx283_1, hx283_2, hx283_3, hx283_4, hl283_4, hi283_4⟩ := at_T43 (Kd.V_reads' HO_15.out).2.2 x17_1 p283 q283
      cases e283
      obtain ⟨ce283, hce283, hMe283, hcc283⟩ := Kd.V_get HO_15.out z43 x17_1 p283 (by first | exact q283 | exact of_decide_eq_true az | (have e_ := (Kd.V_reads' HO_15.out).1; omega))
      obtain ⟨ua283_4, uc283_4, rfl, ul283_4, ge283_4⟩ := k43_openF hMe283
      have hv283_4 := hcc283 4 _ rfl
      rw [add_field _ _ 4 (by omega)] at hv283_4
      replace hv283_4 := Option.some.inj (hv283_4.symm.trans hx283_4)
      injection hv283_4 with hva_ hvn_ hvc_
      rw [hva_] at ge283_4
      rw [hvc_] at ul283_4
      have HL283_4 := am (show Kd.V k43 43 _ w.heap.size _ _ ((rd_T43 l0 x17_1).f4) from Kd.V_mk ul283_4 ge283_4)
      clear hva_ hvn_ hvc_ ge283_4 ul283_4
      clear hcc283 hce283
      have HR283_4 := am hi283_4
      have HC283_4 := am hl283_4
      clear hi283_4 hl283_4
      replace p283 := eq_true p283
      replace q283 := eq_true q283
      go_wp2_with (first | ((with_reducible refine gate_dst (N := 10) rfl ?_); (try (refine gate_guard (by rfl) ?_; dsimp only)); refine box_event rfl (N := 10) rfl (cs := #[.int .i64 0, .int .i64 0, .int .i64 0, .string (⟨#[]⟩ : ByteArray), .slice none 0 0]) (t := 43) gz ?_; intro gb284 hg w37 hbox hb; replace HO_6 := am (Kd.R_below (rz HO_6.out) hb); replace HO_7 := am (Kd.N_below (Kd.N_elderB (nz HO_7.out) gb284 (Nat.le_of_eq hg.symm)) hb); replace HO_8 := am (Kd.R_below (rz HO_8.out) hb); replace HO_15 := am (Kd.V_below (Kd.V_elderB (vz HO_15.out) gb284 (Nat.le_of_eq hg.symm)) hb); replace HL283_4 := am (Kd.V_below (Kd.V_elderB (vz HL283_4.out) gb284 (Nat.le_of_eq hg.symm)) hb); replace HR283_4 := am (Kd.C_below (cz HR283_4.out) hb); have BK284 := am (hbox); have GW284 := am ((bs hg (hz HB.out) : w.heap.size ≤ gb284)); have GE284 := am ((bs hg (hz HB.out) : w.heap.size ≤ gb284)); replace HB := am (below_step (hz HB.out) hb); clear hb hbox hg; obtain ⟨hcz38_0, hcz38_1, hcz38_2, hcz38_3, hcz38_4⟩ := cs5 BK284.out; obtain ⟨hfz38_0, hfz38_1, hfz38_2, hfz38_3, hfz38_4⟩ := fs5 BK284.out) | ((with_reducible refine gate_callee (f := 30) rfl ?_); refine goesL_ (some 23) rfl rfl Tryd.func30 (by kernel_rfl) rfl #[.agg #[.int .i64 ((rd_T43 l0 x17_1).f0), .int .i64 ((rd_T43 l0 x17_1).f1), .int .i64 ((rd_T43 l0 x17_1).f2), .string ((rd_T43 l0 x17_1).f3), .slice A283_4 ((rd_T43 l0 x17_1).f4).length c283_4]] rfl lz ?_; (with_reducible refine (codec_Encode.calls k1 ((rd_T43 l0 x17_1).f0) ((rd_T43 l0 x17_1).f1) ((rd_T43 l0 x17_1).f2) ((rd_T43 l0 x17_1).f3) _ _ ((rd_T43 l0 x17_1).f4) t285 t288 _ ?side1 ?side2 A5.out).mono ?_); (case side1 => repeat (first | exact ((Kd.V_reads' (vz (Kd.V_mono (Kd.V_far (p := ⟨gb284, 4, none⟩) (Kd.V_far (p := ⟨gb284, 3, none⟩) (Kd.V_far (p := ⟨gb284, 2, none⟩) (Kd.V_far (p := ⟨gb284, 1, none⟩) (Kd.V_far (p := ⟨gb284, 0, none⟩) (Kd.V_mono HL283_4.out (fun k_ hk => (⟨hk, hk.2⟩ : _ ∧ k_ ≠ gb284))) (fun _ hk => hk.2) (.int .i64 ((rd_T43 l0 x17_1).f0))) (fun _ hk => hk.2) (.int .i64 ((rd_T43 l0 x17_1).f1))) (fun _ hk => hk.2) (.int .i64 ((rd_T43 l0 x17_1).f2))) (fun _ hk => hk.2) (.string ((rd_T43 l0 x17_1).f3))) (fun _ hk => hk.2) (.slice A283_4 ((rd_T43 l0 x17_1).f4).length c283_4)) (fun _ h_ => h_.1)))).2.2) | (with_reducible refine Kd.C_alloc ?_ _) | (with_reducible refine Kd.C_drewN ?_ _) | (with_reducible refine Kd.C_drew ?_))); (case side2 => exact HC283_4.out); rintro e w39 ⟨v286, rfl, ho0, hb⟩; refine ⟨_, rfl, ?_⟩; replace HO_7 := am (Kd.N_elder' (nz (Kd.N_mono (Kd.N_far (p := ⟨gb284, 4, none⟩) (Kd.N_far (p := ⟨gb284, 3, none⟩) (Kd.N_far (p := ⟨gb284, 2, none⟩) (Kd.N_far (p := ⟨gb284, 1, none⟩) (Kd.N_far (p := ⟨gb284, 0, none⟩) (Kd.N_mono HO_7.out (fun k_ hk => (⟨hk, hk.2⟩ : _ ∧ k_ ≠ gb284))) (fun _ hk => hk.2) (.int .i64 ((rd_T43 l0 x17_1).f0))) (fun _ hk => hk.2) (.int .i64 ((rd_T43 l0 x17_1).f1))) (fun _ hk => hk.2) (.int .i64 ((rd_T43 l0 x17_1).f2))) (fun _ hk => hk.2) (.string ((rd_T43 l0 x17_1).f3))) (fun _ hk => hk.2) (.slice A283_4 ((rd_T43 l0 x17_1).f4).length c283_4)) (fun _ h_ => h_.1))) (Kd.R_base ho0) hb); replace HO_8 := am (Kd.R_below (rz (Kd.R_mono (Kd.R_far (p := ⟨gb284, 4, none⟩) (rfg4 HO_8.out BK284.out) (fun _ hk => hk.2) (.slice A283_4 ((rd_T43 l0 x17_1).f4).length c283_4)) (fun _ h_ => h_.1))) hb); replace HO_15 := am (Kd.V_elder' (vz (Kd.V_mono (Kd.V_far (p := ⟨gb284, 4, none⟩) (Kd.V_far (p := ⟨gb284, 3, none⟩) (Kd.V_far (p := ⟨gb284, 2, none⟩) (Kd.V_far (p := ⟨gb284, 1, none⟩) (Kd.V_far (p := ⟨gb284, 0, none⟩) (Kd.V_mono HO_15.out (fun k_ hk => (⟨hk, hk.2⟩ : _ ∧ k_ ≠ gb284))) (fun _ hk => hk.2) (.int .i64 ((rd_T43 l0 x17_1).f0))) (fun _ hk => hk.2) (.int .i64 ((rd_T43 l0 x17_1).f1))) (fun _ hk => hk.2) (.int .i64 ((rd_T43 l0 x17_1).f2))) (fun _ hk => hk.2) (.string ((rd_T43 l0 x17_1).f3))) (fun _ hk => hk.2) (.slice A283_4 ((rd_T43 l0 x17_1).f4).length c283_4)) (fun _ h_ => h_.1))) (Kd.R_base ho0) hb); have HO287 := am (Kd.R_lower (Kd.R_new' (Kd.R_newM (M := fun k_ => (w.heap.size ≤ k_)) ho0 (below_size (hz1 HB.out GE284.out)) (fun k_ h_ => h_)) (Kd.R_lt (rz (Kd.R_mono (Kd.R_far (p := ⟨gb284, 4, none⟩) (rfg4 HO_6.out BK284.out) (fun _ hk => hk.2) (.slice A283_4 ((rd_T43 l0 x17_1).f4).length c283_4)) (fun _ h_ => h_.1))))) (below_size (hz1 HB.out GE284.out))); replace HO_6 := am (Kd.R_elder' (rz (Kd.R_mono (Kd.R_far (p := ⟨gb284, 4, none⟩) (rfg4 HO_6.out BK284.out) (fun _ hk => hk.2) (.slice A283_4 ((rd_T43 l0 x17_1).f4).length c283_4)) (fun _ h_ => h_.1))) (Kd.R_base ho0) hb); replace HR283_4 := am (Kd.C_below ((Kd.V_reads' (vz (Kd.V_mono (Kd.V_far (p := ⟨gb284, 4, none⟩) (Kd.V_far (p := ⟨gb284, 3, none⟩) (Kd.V_far (p := ⟨gb284, 2, none⟩) (Kd.V_far (p := ⟨gb284, 1, none⟩) (Kd.V_far (p := ⟨gb284, 0, none⟩) (Kd.V_mono HL283_4.out (fun k_ hk => (⟨hk, hk.2⟩ : _ ∧ k_ ≠ gb284))) (fun _ hk => hk.2) (.int .i64 ((rd_T43 l0 x17_1).f0))) (fun _ hk => hk.2) (.int .i64 ((rd_T43 l0 x17_1).f1))) (fun _ hk => hk.2) (.int .i64 ((rd_T43 l0 x17_1).f2))) (fun _ hk => hk.2) (.string ((rd_T43 l0 x17_1).f3))) (fun _ hk => hk.2) (.slice A283_4 ((rd_T43 l0 x17_1).f4).length c283_4)) (fun _ h_ => h_.1)))).2.2) hb); replace HL283_4 := am (Kd.V_elder' (vz (Kd.V_mono (Kd.V_far (p := ⟨gb284, 4, none⟩) (Kd.V_far (p := ⟨gb284, 3, none⟩) (Kd.V_far (p := ⟨gb284, 2, none⟩) (Kd.V_far (p := ⟨gb284, 1, none⟩) (Kd.V_far (p := ⟨gb284, 0, none⟩) (Kd.V_mono HL283_4.out (fun k_ hk => (⟨hk, hk.2⟩ : _ ∧ k_ ≠ gb284))) (fun _ hk => hk.2) (.int .i64 ((rd_T43 l0 x17_1).f0))) (fun _ hk => hk.2) (.int .i64 ((rd_T43 l0 x17_1).f1))) (fun _ hk => hk.2) (.int .i64 ((rd_T43 l0 x17_1).f2))) (fun _ hk => hk.2) (.string ((rd_T43 l0 x17_1).f3))) (fun _ hk => hk.2) (.slice A283_4 ((rd_T43 l0 x17_1).f4).length c283_4)) (fun _ h_ => h_.1))) (Kd.R_base ho0) hb); replace BK284 := am (blk_below (g := gb284) (o := .cells #[.int .i64 ((rd_T43 l0 x17_1).f0), .int .i64 ((rd_T43 l0 x17_1).f1), .int .i64 ((rd_T43 l0 x17_1).f2), .string ((rd_T43 l0 x17_1).f3), .slice A283_4 ((rd_T43 l0 x17_1).f4).length c283_4] 43 (0, 0)) (bp BK284.out) hb); replace HB := am (below_step (hz1 HB.out GE284.out) hb); (try clear hb); (try clear hk); (try clear hi); (try clear ho0); obtain ⟨Ao40, co40, eo40⟩ := Kd.N_slice HO_7.out; subst eo40))
      go_roundg k1
      case measure => have := HK1.out; omega
      case rel => exact ⟨(x6_1), (x7_1), (x8_1), (wrap64 (x17_1 + 1)), (by first | rfl | (simp; done) | (simp [*]; done)), H', ⟨by have := HK1.out; omega⟩, ⟨by (with_reducible repeat (first | apply Kd.R_alloc | apply Kd.R_drewN | apply Kd.R_drew)); exact Kd.R_mono HO_6.out (fun _ hk => hk.1)⟩, ⟨by (with_reducible repeat (first | apply Kd.N_alloc | apply Kd.N_drewN | apply Kd.N_drew)); exact Kd.N_mono HO_7.out (fun _ hk => ⟨hk.1.1.1, ⟨hk.1.1.2.1, hk.1.1.2.2⟩⟩)⟩, ⟨by (with_reducible repeat (first | apply Kd.R_alloc | apply Kd.R_drewN | apply Kd.R_drew)); exact HO_8.out⟩, ⟨by (with_reducible repeat (first | apply Kd.V_alloc | apply Kd.V_drewN | apply Kd.V_drew)); exact Kd.V_mono HO_15.out (fun _ hk => ⟨hk.1.1.1, ⟨hk.1.1.2.1, ⟨hk.1.1.2.2.1, hk.1.1.2.2.2⟩⟩⟩)⟩, ⟨hz1 HB.out GE284.out⟩⟩
   ·
    rw [if_neg c2] at H
    have c2b0 : decide (x17_1 < (l0.length : Int)) = false := decide_eq_false c2
    clear c2
    simp only [Option.some.injEq, Prod.mk.injEq] at H
    obtain ⟨rfl, rfl, rfl, rfl⟩ := H
    go_wp2
    refine bodyPost_ret (results_list (rs := [.tmp 2, .tmp 3, .tmp 4, .tmp 5]) rfl (by simp) (.tmp (.tmp (.tmp (.tmp .nil))))) rfl ?_
    exact ⟨_, _, _, by first | rfl | (simp [errW_none, errW_some] <;> rfl) | (simp [*, errW_none, errW_some] <;> rfl), by (with_reducible repeat (first | apply Kd.R_alloc | apply Kd.R_drewN | apply Kd.R_drew)); exact HO_6.out, by (with_reducible repeat (first | apply Kd.N_alloc | apply Kd.N_drewN | apply Kd.N_drew)); exact HO_7.out, by (with_reducible repeat (first | apply Kd.R_alloc | apply Kd.R_drewN | apply Kd.R_drew)); exact HO_8.out, hz HB.out⟩

/-! ### examboardlaw49_complete: function 10 -/
def examboardlaw49_complete.l0 : Nat → Int → Int → List Int → Int → Int → Option (Int)
 | 0, _, _, _, _, _ => none
 | k + 1, x1, x5, x8, x9, x10 => if x10 < x9 then (if 0 ≤ x10 then (if x10 < (x8.length : Int) then (if (rd x8 x10) ≤ x1 then (examboardlaw49_complete.l0 k x1 (wrap64 (x5 + 1)) x8 x9 (wrap64 (x10 + 1))) else (examboardlaw49_complete.l0 k x1 x5 x8 x9 (wrap64 (x10 + 1)))) else (none)) else (none)) else (some x5)
def examboardlaw49_complete.f (k : Nat) (l0 : List Int) (a1 : Int) : Option (Int) := examboardlaw49_complete.l0 k a1 0 l0 (l0.length : Int) 0
theorem examboardlaw49_complete.mono_l : ∀ k, (∀ y0 y1 y2 y3 y4, LeO (examboardlaw49_complete.l0 k y0 y1 y2 y3 y4) (examboardlaw49_complete.l0 (k + 1) y0 y1 y2 y3 y4))
 | 0 => fun _ _ _ _ _ r h => by simp [examboardlaw49_complete.l0] at h
 | k + 1 => by
  have ih0 := examboardlaw49_complete.mono_l k
  ·
   intro y0 y1 y2 y3 y4
   unfold examboardlaw49_complete.l0
   repeat' first
   | (with_reducible exact ih0 _ _ _ _ _)
   | (with_reducible exact LeO.refl _)
   | (with_reducible exact LeO.none _)
   | (with_reducible refine LeO.ite ?_ ?_)
   | (with_reducible refine LeO.bind ?_ (fun _ => ?_))
   | exact ih0 _ _ _ _ _
   | exact LeO.none _
   | refine LeO.ite ?_ ?_
   | refine LeO.bind ?_ (fun _ => ?_)
theorem examboardlaw49_complete.mono : ∀ a0 a1 k, LeO (examboardlaw49_complete.f k a0 a1) (examboardlaw49_complete.f (k + 1) a0 a1) := by
 intro a0 a1 k
 have ih0 := examboardlaw49_complete.mono_l k
 unfold examboardlaw49_complete.f
 repeat' first
   | (with_reducible exact ih0 _ _ _ _ _)
   | (with_reducible exact LeO.refl _)
   | (with_reducible exact LeO.none _)
   | (with_reducible refine LeO.ite ?_ ?_)
   | (with_reducible refine LeO.bind ?_ (fun _ => ?_))
   | exact ih0 _ _ _ _ _
   | exact LeO.none _
   | refine LeO.ite ?_ ?_
   | refine LeO.bind ?_ (fun _ => ?_)
set_option maxHeartbeats 8000000 in
set_option maxRecDepth 100000 in
theorem examboardlaw49_complete.calls (k : Nat) (A0 : Option Addr) (c0 : Nat) (l0 : List Int) (a1 : Int) (r : Int) (w : World) (hr0 : Kd.C (Kd.int .i64) w A0 l0.length l0) (hc0 : l0.length ≤ c0) (h : examboardlaw49_complete.f k l0 a1 = some r) :
  Calls Tryd.prog 10 #[.slice A0 l0.length c0, .int .i64 a1] w fun e w' => e = .returned (.int .i64 r) ∧ Drawn0 w w' := by
 have HR0 := am hr0
 have HC0 := am hc0
 clear hr0 hc0
 have H : (examboardlaw49_complete.l0 k a1 0 l0 (l0.length : Int) 0) = some r := h
 clear h
 have H' := am H
 clear H
 go_enter Tryd.func10, Tryd.ntmps10
 go_wp2
 go_loopg [5, 10] k (fun kq v5 v10 w' => ∃ (x5_1 : Int) (x10_1 : Int), v5 = .int .i64 x5_1 ∧ v10 = .int .i64 x10_1 ∧ Aside0 (examboardlaw49_complete.l0 kq a1 x5_1 l0 (l0.length : Int) x10_1 = some r) ∧ Aside0 (kq ≤ k) ∧ Drawn0 w w')
 case atStart => exact ⟨(0), (0), (by first | rfl | (simp; done) | (simp [*]; done)), (by first | rfl | (simp; done) | (simp [*]; done)), H', ⟨Nat.le_refl _⟩, by repeat (first | exact Drawn0.refl _ | apply Drawn0.step)⟩
 case round =>
  clear H'
  try clear c1
  try clear p2
  obtain ⟨x5_1, x10_1, rfl, rfl, HA, HK1, ⟨m1, rfl⟩⟩ := hrel
  cases gk with
  | zero => exact absurd HA.out (by simp [examboardlaw49_complete.l0])
  | succ k1 =>
   have H := HA.out
   clear HA
   simp only [examboardlaw49_complete.l0] at H
   by_cases c3 : x10_1 < (l0.length : Int)
   ·
    rw [if_pos c3] at H
    have c3b0 : decide (x10_1 < (l0.length : Int)) = true := decide_eq_true c3
    clear c3
    replace H := it_ H
    obtain ⟨c4, H⟩ := H
    have c4b0 : decide (0 ≤ x10_1) = true := decide_eq_true c4
    clear c4
    replace H := it_ H
    obtain ⟨c5, H⟩ := H
    have c5b0 : decide (x10_1 < (l0.length : Int)) = true := decide_eq_true c5
    clear c5
    by_cases c6 : (rd l0 x10_1) ≤ a1
    ·
     rw [if_pos c6] at H
     have c6b0 : decide ((rd l0 x10_1) ≤ a1) = true := decide_eq_true c6
     clear c6
     have H' := am H
     clear H
     have p300 : 0 ≤ (x10_1 : Int) := of_decide_eq_true az
     have q300 : x10_1 < (l0.length : Int) := of_decide_eq_true az
     obtain ⟨ad300, e300, hx300_0⟩ := Kd.at_int HR0.out x10_1 p300 q300
     cases e300
     replace p300 := eq_true p300
     replace q300 := eq_true q300
     go_wp2
     go_roundg k1
     case measure => have := HK1.out; omega
     case rel => exact ⟨(wrap64 (x5_1 + 1)), (wrap64 (x10_1 + 1)), (by first | rfl | (simp; done) | (simp [*]; done)), (by first | rfl | (simp; done) | (simp [*]; done)), H', ⟨by have := HK1.out; omega⟩, by repeat (first | exact Drawn0.refl _ | apply Drawn0.step)⟩
    ·
     rw [if_neg c6] at H
     have c6b0 : decide ((rd l0 x10_1) ≤ a1) = false := decide_eq_false c6
     clear c6
     have H' := am H
     clear H
     have p300 : 0 ≤ (x10_1 : Int) := of_decide_eq_true az
     have q300 : x10_1 < (l0.length : Int) := of_decide_eq_true az
     obtain ⟨ad300, e300, hx300_0⟩ := Kd.at_int HR0.out x10_1 p300 q300
     cases e300
     replace p300 := eq_true p300
     replace q300 := eq_true q300
     go_wp2
     go_roundg k1
     case measure => have := HK1.out; omega
     case rel => exact ⟨(x5_1), (wrap64 (x10_1 + 1)), (by first | rfl | (simp; done) | (simp [*]; done)), (by first | rfl | (simp; done) | (simp [*]; done)), H', ⟨by have := HK1.out; omega⟩, by repeat (first | exact Drawn0.refl _ | apply Drawn0.step)⟩
   ·
    rw [if_neg c3] at H
    have c3b0 : decide (x10_1 < (l0.length : Int)) = false := decide_eq_false c3
    clear c3
    obtain rfl := Option.some.inj H
    go_wp2
    go_ret
    exact ⟨by first | rfl | (simp; done) | (simp [*]; done), by repeat (first | exact Drawn0.refl _ | apply Drawn0.step)⟩

end Go.Proofs.YteeggfnailpcpaaDoor.Q
