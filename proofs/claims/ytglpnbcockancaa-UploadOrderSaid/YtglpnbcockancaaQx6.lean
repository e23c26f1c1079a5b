/- Made by wip/myprint.py of this session (it drives the kit's printer): what the calls of the Go functions come to, as plain Lean functions, and the row of a law over them; without conditions. -/
import Derived.Test.YtglpnbcockancaaQx0
import Derived.Test.YtglpnbcockancaaQx1
import Derived.Test.YtglpnbcockancaaQx2
import Derived.Test.YtglpnbcockancaaQx3
import Derived.Test.YtglpnbcockancaaQx4
import Derived.Test.YtglpnbcockancaaQx5
namespace Go.Proofs.Ytglpnbcockancaa.Q
open Go.RowKit Go.Proofs.YtglpnbcockancaaW.PrintWords Go.Proofs.YtglpnbcockancaaW.PrintLast Go.Proofs.YtglpnbcockancaaW.PrintMore
attribute [local go_sem] max2_int min2_int max_two min_two max_three min_three max_four min_four   -- for this text's walks alone
set_option linter.unusedVariables false
set_option linter.unusedSimpArgs false

set_option maxHeartbeats 8000000 in
set_option maxRecDepth 100000 in
theorem upload_Receive.callsB (k : Nat) (a0_0 : Int) (A0_1 : Option Addr) (c0_1 : Nat) (l0_1 : List Int) (A0_2 : Option Addr) (c0_2 : Nat) (l0_2 : List (S25)) (a1_0 : Int) (a1_1 : Int) (A1_2 : Option Addr) (c1_2 : Nat) (l1_2 : List Int) (a1_3 : Int) (r1 : Int) (r2 : List Int) (r3 : List (S25)) (r4 : Int) (w : World) (t236 : Int) (t238 : List Int) (HR0_1 : Aside0 (Kd.C (Kd.int .u8) w A0_1 l0_1.length l0_1)) (HC0_1 : Aside0 (l0_1.length ≤ c0_1)) (HR0_2 : Aside0 (Kd.C k25 w A0_2 l0_2.length l0_2)) (HC0_2 : Aside0 (l0_2.length ≤ c0_2)) (HR1_2 : Aside0 (Kd.C (Kd.int .u8) w A1_2 l1_2.length l1_2)) (HC1_2 : Aside0 (l1_2.length ≤ c1_2)) (HB : Aside0 (Below w.heap.size w w)) (A3 : Aside0 (upload_valid.f k a0_0 l0_1 l0_2 = some true)) (A5 : Aside0 (upload_check.f k a1_0 a1_1 l1_2 a1_3 = some t236)) (A8 : Aside0 (upload_conflict.f k a0_0 l0_1 l0_2 a1_0 a1_1 l1_2 a1_3 = some false)) (A10 : Aside0 (bytes_Clone.f l0_1 = some t238)) (c6b0 : (t236 == 0) = true) (c6b1 : (t236 != 0) = false) (c7b0 : (a1_0 == a0_0) = true) (c7b1 : (a1_0 != a0_0) = false) (H : (if a1_1 > (l0_1.length : Int) then ((upload_known_any.f k l0_2 a1_0 a1_1 l1_2 a1_3).bind fun t242 => (if t242 = true then (upload_Receive.j0 k t242 false a0_0 l0_1 l0_2 a1_0 a1_1 l1_2 a1_3 a0_0 t238) else (upload_Receive.j0 k t242 (decide ((l0_2.length : Int) ≥ 1024)) a0_0 l0_1 l0_2 a1_0 a1_1 l1_2 a1_3 a0_0 t238))) else ((upload_extended.f t238 a1_0 a1_1 l1_2 a1_3).bind fun t282 => (upload_Receive.l1 k l0_2 (l0_2.length : Int) 0 a0_0 t282 ([] : List (S25))))) = some (r1, r2, r3, r4)) (c11 : ¬ (a1_1 > (l0_1.length : Int))) :
  Calls Try.prog 20 #[.agg #[.int .i64 a0_0, .slice A0_1 l0_1.length c0_1, .slice A0_2 l0_2.length c0_2], .agg #[.int .i64 a1_0, .int .i64 a1_1, .slice A1_2 l1_2.length c1_2, .int .u64 a1_3]] w fun e w' => ∃ v1_ v2_ : Value, e = .returned (.tuple #[.agg #[.int .i64 r1, v1_, v2_], .int .i64 r4]) ∧ Kd.R (Kd.int .u8) 5 w' w.heap.size (fun _ => True) v1_ r2 ∧ Kd.S k25 25 w' w.heap.size (fun k_ => some k_ ≠ (v1_ : Value).ownBlock) v2_ r3 ∧ Below w.heap.size w w' := by
 have hu34 := Try.underlying34
 have hu25 := Try.underlying25
 rw [if_neg c11] at H
 have c11b0 : decide ((l0_1.length : Int) < a1_1) = false := decide_eq_false c11
 clear c11
 replace H := Option.bind_eq_some_iff.mp H
 obtain ⟨t282, A1230, H⟩ := H
 replace H : (upload_Receive.l1 k l0_2 (l0_2.length : Int) 0 a0_0 t282 ([] : List (S25))) = some (r1, r2, r3, r4) := H
 have A123 := am A1230
 clear A1230
 have H' := am H
 clear H
 go_enter Try.func20, Try.ntmps20
 try go_wp2_with (first | ((with_reducible refine gate_dst (N := 2) rfl ?_); (try (refine gate_guard (by rfl) ?_; dsimp only)); refine box_event ?hg (N := 2) ?hd (cs := #[.int .i64 a0_0, .slice A0_1 l0_1.length c0_1, .slice A0_2 l0_2.length c0_2]) (t := 34) ?hr ?_; (case hd => rfl); (case hg => rfl); (case hr => exact gz); intro gb232 hg w124 hbox hb; have BK232 := am (hbox); have GW232 := am ((bs hg (hz HB.out) : w.heap.size ≤ gb232)); have GE232 := am ((bs hg (hz HB.out) : w.heap.size ≤ gb232)); replace HB := am (below_step (hz HB.out) hb); clear hb hbox hg) | ((with_reducible refine gate_dst (N := 3) rfl ?_); (try (refine gate_guard (by rfl) ?_; dsimp only)); refine box_event ?hg (N := 3) ?hd (cs := #[.int .i64 a1_0, .int .i64 a1_1, .slice A1_2 l1_2.length c1_2, .int .u64 a1_3]) (t := 25) ?hr ?_; (case hd => rfl); (case hg => rfl); (case hr => exact gz); intro gb233 hg w125 hbox hb; have BK233 := am (hbox); have GW233 := am ((bs hg (hz1 HB.out GE232.out) : w.heap.size ≤ gb233)); have GE233 := am ((bs hg (hz1 HB.out GE232.out) : w.heap.size ≤ gb233)); replace HB := am (below_step (hz1 HB.out GE232.out) hb); have NB232_233 := am ((nl hg (bz BK232.out) : gb232 ≠ gb233)); have NB233_232 := am ((ng hg (bz BK232.out) : gb233 ≠ gb232)); replace BK232 := am (blk_below (bz BK232.out) hb); clear hb hbox hg) | ((with_reducible refine gate_dst (N := 4) rfl ?_); (try (refine gate_guard (by rfl) ?_; dsimp only)); refine box_event ?hg (N := 4) ?hd (cs := #[.int .i64 0, .slice none 0 0, .slice none 0 0]) (t := 34) ?hr ?_; (case hd => rfl); (case hg => rfl); (case hr => exact gz); intro gb234 hg w126 hbox hb; have BK234 := am (hbox); have GW234 := am ((bs hg (hz2 HB.out GE232.out GE233.out) : w.heap.size ≤ gb234)); have GE234 := am ((bs hg (hz2 HB.out GE232.out GE233.out) : w.heap.size ≤ gb234)); replace HB := am (below_step (hz2 HB.out GE232.out GE233.out) hb); have NB232_234 := am ((nl hg (bz BK232.out) : gb232 ≠ gb234)); have NB234_232 := am ((ng hg (bz BK232.out) : gb234 ≠ gb232)); replace BK232 := am (blk_below (bz BK232.out) hb); have NB233_234 := am ((nl hg (bz BK233.out) : gb233 ≠ gb234)); have NB234_233 := am ((ng hg (bz BK233.out) : gb234 ≠ gb233)); replace BK233 := am (blk_below (bz BK233.out) hb); clear hb hbox hg; have hnb127 := NB232_233.out; have hnc127 := NB233_232.out; have hnb128 := NB232_234.out; have hnc128 := NB234_232.out; obtain ⟨hcz129_0, hcz129_1, hcz129_2⟩ := cs3 BK232.out; obtain ⟨hfz129_0, hfz129_1, hfz129_2⟩ := fs3 BK232.out) | ((with_reducible refine gate_callee (f := 36) rfl ?_); refine goesL_ (some 15) rfl rfl Try.func36 (by kernel_rfl) rfl #[.agg #[.int .i64 a0_0, .slice A0_1 l0_1.length c0_1, .slice A0_2 l0_2.length c0_2]] rfl lz ?_; (with_reducible refine (upload_valid.calls k a0_0 _ _ l0_1 _ _ l0_2 true _ ?side1 ?side2 ?side3 ?side4 A3.out).mono ?_); (case side1 => exact cz (Kd.C_below HR0_1.out HB.out)); (case side2 => exact HC0_1.out); (case side3 => exact cz (Kd.C_below HR0_2.out HB.out)); (case side4 => exact HC0_2.out); rintro e w130 ⟨rfl, hb⟩; refine ⟨_, rfl, ?_⟩; replace BK232 := am (blk_below (bz BK232.out) hb); replace BK233 := am (blk_below (bz BK233.out) hb); replace BK234 := am (blk_below (bz BK234.out) hb); replace HB := am (below_step (hz3 HB.out GE232.out GE233.out GE234.out) hb); (try clear hb); (try clear hb2); (try clear hk); (try clear hi); have hnb131 := NB233_234.out; have hnc131 := NB234_233.out; obtain ⟨hcz132_0, hcz132_1, hcz132_2, hcz132_3⟩ := cs4 BK233.out; obtain ⟨hfz132_0, hfz132_1, hfz132_2, hfz132_3⟩ := fs4 BK233.out) | ((with_reducible refine gate_callee (f := 37) rfl ?_); refine goesL_ (some 19) rfl rfl Try.func37 (by kernel_rfl) rfl #[.agg #[.int .i64 a1_0, .int .i64 a1_1, .slice A1_2 l1_2.length c1_2, .int .u64 a1_3]] rfl lz ?_; (with_reducible refine (upload_check.calls k a1_0 a1_1 _ _ l1_2 a1_3 t236 _ ?side1 ?side2 A5.out).mono ?_); (case side1 => exact cz (Kd.C_below HR1_2.out HB.out)); (case side2 => exact HC1_2.out); rintro e w133 ⟨rfl, hb⟩; refine ⟨_, rfl, ?_⟩; replace BK232 := am (blk_below (bz BK232.out) hb); replace BK233 := am (blk_below (bz BK233.out) hb); replace BK234 := am (blk_below (bz BK234.out) hb); replace HB := am (below_step (hz3 HB.out GE232.out GE233.out GE234.out) hb); (try clear hb); (try clear hb2); (try clear hk); (try clear hi); obtain ⟨hcz134_0, hcz134_1, hcz134_2, hcz134_3⟩ := cs4 BK233.out; obtain ⟨hfz134_0, hfz134_1, hfz134_2, hfz134_3⟩ := fs4 BK233.out; obtain ⟨hcz135_0, hcz135_1, hcz135_2⟩ := cs3 BK232.out; obtain ⟨hfz135_0, hfz135_1, hfz135_2⟩ := fs3 BK232.out) | ((with_reducible refine gate_callee (f := 38) rfl ?_); refine goesL_ (some 32) rfl rfl Try.func38 (by kernel_rfl) rfl #[.agg #[.int .i64 a0_0, .slice A0_1 l0_1.length c0_1, .slice A0_2 l0_2.length c0_2], .agg #[.int .i64 a1_0, .int .i64 a1_1, .slice A1_2 l1_2.length c1_2, .int .u64 a1_3]] rfl lz ?_; (with_reducible refine (upload_conflict.calls k a0_0 _ _ l0_1 _ _ l0_2 a1_0 a1_1 _ _ l1_2 a1_3 false _ ?side1 ?side2 ?side3 ?side4 ?side5 ?side6 A8.out).mono ?_); (case side1 => exact cz (Kd.C_below HR0_1.out HB.out)); (case side2 => exact HC0_1.out); (case side3 => exact cz (Kd.C_below HR0_2.out HB.out)); (case side4 => exact HC0_2.out); (case side5 => exact cz (Kd.C_below HR1_2.out HB.out)); (case side6 => exact HC1_2.out); rintro e w136 ⟨rfl, hb⟩; refine ⟨_, rfl, ?_⟩; replace BK232 := am (blk_below (bz BK232.out) hb); replace BK233 := am (blk_below (bz BK233.out) hb); replace BK234 := am (blk_below (bz BK234.out) hb); replace HB := am (below_step (hz3 HB.out GE232.out GE233.out GE234.out) hb); (try clear hb); (try clear hb2); (try clear hk); (try clear hi)))
 replace BK232 := am (blk_drew BK232.out)
 replace BK233 := am (blk_drew BK233.out)
 replace BK234 := am (blk_drew BK234.out)
 replace HB := am (below_drew1 HB.out)
 refine start_ (n := 8) (S := fun w' => w'.cell? ⟨gb232, 0, none⟩ = some (.int .i64 a0_0) ∧ w'.cell? ⟨gb232, 1, none⟩ = some (.slice A0_1 l0_1.length c0_1) ∧ w'.cell? ⟨gb232, 2, none⟩ = some (.slice A0_2 l0_2.length c0_2)) (ds := []) #[false, false, false, false, false, false, false, false] (by kernel_rfl) rfl rfl ⟨(blk_cell BK232.out 0).trans rfl, (blk_cell BK232.out 1).trans rfl, (blk_cell BK232.out 2).trans rfl⟩ (fun hHeld => ?_); refine with_tabW upload_Receive.tab10 upload_Receive.bits10 (fun HT_ HW_ => ?_)
 generalize w136.drew = w137 at BK232 BK233 BK234 HB hHeld ⊢
 refine pz 0 34 HT_.out ?_
 refine pz 2 36 HT_.out ?_
 refine tz3 1 35 HT_.out HW_.out hHeld ?_
 refine tz3 3 37 HT_.out HW_.out hHeld ?_
 refine join_ (σ := Value × Nat) 1 #[true, true, true, true, true, true, true, false] (fun s_ => [(38, s_.1), (7, .pointer (some ⟨s_.2, 0, none⟩)), (39, .agg #[.int .i64 a0_0, s_.1, .slice none 0 0])]) (fun s_ w' => (w'.cell? ⟨gb232, 0, none⟩ = some (.int .i64 a0_0) ∧ w'.cell? ⟨gb232, 1, none⟩ = some (.slice A0_1 l0_1.length c0_1) ∧ w'.cell? ⟨gb232, 2, none⟩ = some (.slice A0_2 l0_2.length c0_2)) ∧ (Kd.R (Kd.int .u8) 5 w' w.heap.size (fun _ => True) s_.1 t238) ∧ (w'.heap[gb232]? = some (.cells #[.int .i64 a0_0, .slice A0_1 l0_1.length c0_1, .slice A0_2 l0_2.length c0_2] 34 (0, 0))) ∧ (w'.heap[gb233]? = some (.cells #[.int .i64 a1_0, .int .i64 a1_1, .slice A1_2 l1_2.length c1_2, .int .u64 a1_3] 25 (0, 0))) ∧ (w'.heap[gb234]? = some (.cells #[.int .i64 0, .slice none 0 0, .slice none 0 0] 34 (0, 0))) ∧ (w'.heap[s_.2]? = some (.cells #[.int .i64 0, .slice none 0 0, .slice none 0 0] 34 (0, 0))) ∧ (w.heap.size ≤ s_.2) ∧ (w.heap.size ≤ s_.2) ∧ (gb232 ≠ s_.2) ∧ (s_.2 ≠ gb232) ∧ (gb233 ≠ s_.2) ∧ (s_.2 ≠ gb233) ∧ (gb234 ≠ s_.2) ∧ (s_.2 ≠ gb234) ∧ (Below w.heap.size w w')) ?_ ?_
 rotate_left
 ·
  intro hCont
  refine two_ (i := 4) (j := 6) (Ni := some 38) (Nj := some 7) #[true, true, true, true, true, false, false, false] #[true, true, true, true, false, false, true, false] rfl rfl rfl rfl (two_of HT_.out (by kernel_rfl)) (by decide) (by decide) (fun K hK => ?_) (fun K hK => ?_)
  ·
   skip
   refine goes_ Try.func26 (by kernel_rfl) rfl #[.slice A0_1 l0_1.length c0_1] (by rfl) rfl rfl lz ?_
   with_reducible refine (bytes_Clone.calls _ _ l0_1 t238 _ ?side1 ?side2 A10.out).mono ?_
   (case side1 => exact cz (Kd.C_below HR0_1.out HB.out))
   (case side2 => exact HC0_1.out)
   rintro e w138 ⟨v239, rfl, ho0, hb⟩
   refine ⟨_, rfl, ?_⟩
   have HO240 := am (Kd.R_lower ho0 (below_size (hz3 HB.out GE232.out GE233.out GE234.out)))
   replace BK232 := am (blk_below (bz BK232.out) hb)
   replace BK233 := am (blk_below (bz BK233.out) hb)
   replace BK234 := am (blk_below (bz BK234.out) hb)
   replace HB := am (below_step (hz3 HB.out GE232.out GE233.out GE234.out) hb)
   (try clear hb)
   (try clear hb2)
   (try clear hk)
   (try clear hi)
   (try clear ho0)
   obtain ⟨Ao139, co139, eo139⟩ := Kd.R_slice HO240.out
   (first | subst eo139 | (injection eo139 with f1_ f2_ f3_; have f4_ := f1_.symm; have f5_ := f3_.symm; clear f1_ f2_ f3_; subst f4_; subst f5_))
   refine hK.out _ _ ⟨(blk_cell BK232.out 0).trans rfl, (blk_cell BK232.out 1).trans rfl, (blk_cell BK232.out 2).trans rfl⟩ (fun hHeld => ?_)
   clear hK K
   refine norm_ (a' := ?_) ?_ ?_
   rotate_left
   ·
    show Act.put _ (some 38) _ = _
    simp only [Act.put, List.setIfInBounds_toArray, List.set_cons_zero, List.set_cons_succ, i64_w, i32_w]
    rfl
   refine pz 5 39 HT_.out ?_
   refine oz 6 7 HT_.out (fun K hK => ?_)
   refine box_step ?hg (N := 7) ?hd (cs := #[.int .i64 0, .slice none 0 0, .slice none 0 0]) (t := 34) ?hr ?_; (case hd => rfl); (case hg => rfl); (case hr => exact gz)
   intro gb241 hg w140 hbox hb
   replace HO240 := am (Kd.R_below (rz HO240.out) hb)
   have BK241 := am (hbox)
   have GW241 := am ((bs hg (hz3 HB.out GE232.out GE233.out GE234.out) : w.heap.size ≤ gb241))
   have GE241 := am ((bs hg (hz3 HB.out GE232.out GE233.out GE234.out) : w.heap.size ≤ gb241))
   replace HB := am (below_step (hz3 HB.out GE232.out GE233.out GE234.out) hb)
   have NB232_241 := am ((nl hg (bz BK232.out) : gb232 ≠ gb241))
   have NB241_232 := am ((ng hg (bz BK232.out) : gb241 ≠ gb232))
   replace BK232 := am (blk_below (bz BK232.out) hb)
   have NB233_241 := am ((nl hg (bz BK233.out) : gb233 ≠ gb241))
   have NB241_233 := am ((ng hg (bz BK233.out) : gb241 ≠ gb233))
   replace BK233 := am (blk_below (bz BK233.out) hb)
   have NB234_241 := am ((nl hg (bz BK234.out) : gb234 ≠ gb241))
   have NB241_234 := am ((ng hg (bz BK234.out) : gb241 ≠ gb234))
   replace BK234 := am (blk_below (bz BK234.out) hb)
   clear hb hbox hg
   refine hK.out _ _ ⟨(blk_cell BK232.out 0).trans rfl, (blk_cell BK232.out 1).trans rfl, (blk_cell BK232.out 2).trans rfl⟩ (fun hHeld => ?_)
   clear hK K
   refine norm_ (a' := ?_) ?_ ?_
   rotate_left
   ·
    show Act.put _ (some 7) _ = _
    simp only [Act.put, List.setIfInBounds_toArray, List.set_cons_zero, List.set_cons_succ, i64_w, i32_w]
    rfl
   exact norm_ (by simp only [putAll, Act.put, List.setIfInBounds_toArray, List.set_cons_zero, List.set_cons_succ]) (hCont (.slice Ao139 t238.length co139, gb241) _ ⟨hHeld, (rz HO240.out), (bz BK232.out), (bz BK233.out), (bz BK234.out), (bz BK241.out), GW241.out, GE241.out, NB232_241.out, NB241_232.out, NB233_241.out, NB241_233.out, NB234_241.out, NB241_234.out, (hz4 HB.out GE232.out GE233.out GE234.out GE241.out)⟩)
  ·
   skip
   refine box_step ?hg (N := 7) ?hd (cs := #[.int .i64 0, .slice none 0 0, .slice none 0 0]) (t := 34) ?hr ?_; (case hd => rfl); (case hg => rfl); (case hr => exact gz)
   intro gb241 hg w138 hbox hb
   have BK241 := am (hbox)
   have GW241 := am ((bs hg (hz3 HB.out GE232.out GE233.out GE234.out) : w.heap.size ≤ gb241))
   have GE241 := am ((bs hg (hz3 HB.out GE232.out GE233.out GE234.out) : w.heap.size ≤ gb241))
   replace HB := am (below_step (hz3 HB.out GE232.out GE233.out GE234.out) hb)
   have NB232_241 := am ((nl hg (bz BK232.out) : gb232 ≠ gb241))
   have NB241_232 := am ((ng hg (bz BK232.out) : gb241 ≠ gb232))
   replace BK232 := am (blk_below (bz BK232.out) hb)
   have NB233_241 := am ((nl hg (bz BK233.out) : gb233 ≠ gb241))
   have NB241_233 := am ((ng hg (bz BK233.out) : gb241 ≠ gb233))
   replace BK233 := am (blk_below (bz BK233.out) hb)
   have NB234_241 := am ((nl hg (bz BK234.out) : gb234 ≠ gb241))
   have NB241_234 := am ((ng hg (bz BK234.out) : gb241 ≠ gb234))
   replace BK234 := am (blk_below (bz BK234.out) hb)
   clear hb hbox hg
   refine hK.out _ _ ⟨(blk_cell BK232.out 0).trans rfl, (blk_cell BK232.out 1).trans rfl, (blk_cell BK232.out 2).trans rfl⟩ (fun hHeld => ?_)
   clear hK K
   refine norm_ (a' := ?_) ?_ ?_
   rotate_left
   ·
    show Act.put _ (some 7) _ = _
    simp only [Act.put, List.setIfInBounds_toArray, List.set_cons_zero, List.set_cons_succ, i64_w, i32_w]
    rfl
   refine oz 4 38 HT_.out (fun K hK => ?_)
   refine goes_ Try.func26 (by kernel_rfl) rfl #[.slice A0_1 l0_1.length c0_1] (by rfl) rfl rfl lz ?_
   with_reducible refine (bytes_Clone.calls _ _ l0_1 t238 _ ?side1 ?side2 A10.out).mono ?_
   (case side1 => exact cz (Kd.C_below HR0_1.out HB.out))
   (case side2 => exact HC0_1.out)
   rintro e w139 ⟨v239, rfl, ho0, hb⟩
   refine ⟨_, rfl, ?_⟩
   have HO240 := am (Kd.R_lower ho0 (below_size (hz4 HB.out GE232.out GE233.out GE234.out GE241.out)))
   replace BK232 := am (blk_below (bz BK232.out) hb)
   replace BK233 := am (blk_below (bz BK233.out) hb)
   replace BK234 := am (blk_below (bz BK234.out) hb)
   replace BK241 := am (blk_below (bz BK241.out) hb)
   replace HB := am (below_step (hz4 HB.out GE232.out GE233.out GE234.out GE241.out) hb)
   (try clear hb)
   (try clear hb2)
   (try clear hk)
   (try clear hi)
   (try clear ho0)
   obtain ⟨Ao140, co140, eo140⟩ := Kd.R_slice HO240.out
   (first | subst eo140 | (injection eo140 with f1_ f2_ f3_; have f4_ := f1_.symm; have f5_ := f3_.symm; clear f1_ f2_ f3_; subst f4_; subst f5_))
   refine hK.out _ _ ⟨(blk_cell BK232.out 0).trans rfl, (blk_cell BK232.out 1).trans rfl, (blk_cell BK232.out 2).trans rfl⟩ (fun hHeld => ?_)
   clear hK K
   refine norm_ (a' := ?_) ?_ ?_
   rotate_left
   ·
    show Act.put _ (some 38) _ = _
    simp only [Act.put, List.setIfInBounds_toArray, List.set_cons_zero, List.set_cons_succ, i64_w, i32_w]
    rfl
   refine pz 5 39 HT_.out ?_
   exact norm_ (by simp only [putAll, Act.put, List.setIfInBounds_toArray, List.set_cons_zero, List.set_cons_succ]) (hCont (.slice Ao140 t238.length co140, gb241) _ ⟨hHeld, (rz HO240.out), (bz BK232.out), (bz BK233.out), (bz BK234.out), (bz BK241.out), GW241.out, GE241.out, NB232_241.out, NB241_232.out, NB233_241.out, NB241_233.out, NB234_241.out, NB241_234.out, (hz4 HB.out GE232.out GE233.out GE234.out GE241.out)⟩)
 rintro ⟨v239, gb241⟩ w141 ⟨hS_, h0_, h1_, h2_, h3_, h4_, h5_, h6_, h7_, h8_, h9_, h10_, h11_, h12_, h13_⟩
 have n0_ : Aside0 (Kd.R (Kd.int .u8) 5 w141 w.heap.size (fun _ => True) v239 t238) := ⟨h0_⟩
 have n1_ : Aside0 (w141.heap[gb232]? = some (.cells #[.int .i64 a0_0, .slice A0_1 l0_1.length c0_1, .slice A0_2 l0_2.length c0_2] 34 (0, 0))) := ⟨h1_⟩
 have n2_ : Aside0 (w141.heap[gb233]? = some (.cells #[.int .i64 a1_0, .int .i64 a1_1, .slice A1_2 l1_2.length c1_2, .int .u64 a1_3] 25 (0, 0))) := ⟨h2_⟩
 have n3_ : Aside0 (w141.heap[gb234]? = some (.cells #[.int .i64 0, .slice none 0 0, .slice none 0 0] 34 (0, 0))) := ⟨h3_⟩
 have n4_ : Aside0 (w141.heap[gb241]? = some (.cells #[.int .i64 0, .slice none 0 0, .slice none 0 0] 34 (0, 0))) := ⟨h4_⟩
 have n5_ : Aside0 (w.heap.size ≤ gb241) := ⟨h5_⟩
 have n6_ : Aside0 (w.heap.size ≤ gb241) := ⟨h6_⟩
 have n7_ : Aside0 (gb232 ≠ gb241) := ⟨h7_⟩
 have n8_ : Aside0 (gb241 ≠ gb232) := ⟨h8_⟩
 have n9_ : Aside0 (gb233 ≠ gb241) := ⟨h9_⟩
 have n10_ : Aside0 (gb241 ≠ gb233) := ⟨h10_⟩
 have n11_ : Aside0 (gb234 ≠ gb241) := ⟨h11_⟩
 have n12_ : Aside0 (gb241 ≠ gb234) := ⟨h12_⟩
 have n13_ : Aside0 (Below w.heap.size w w141) := ⟨h13_⟩
 clear BK232
 clear BK233
 clear BK234
 clear HB
 clear h0_ h1_ h2_ h3_ h4_ h5_ h6_ h7_ h8_ h9_ h10_ h11_ h12_ h13_
 have HO240 := n0_
 have BK232 := n1_
 have BK233 := n2_
 have BK234 := n3_
 have BK241 := n4_
 have GW241 := n5_
 have GE241 := n6_
 have NB232_241 := n7_
 have NB241_232 := n8_
 have NB233_241 := n9_
 have NB241_233 := n10_
 have NB234_241 := n11_
 have NB241_234 := n12_
 have HB := n13_
 clear n0_ n1_ n2_ n3_ n4_ n5_ n6_ n7_ n8_ n9_ n10_ n11_ n12_ n13_
 have hHeld : w141.cell? ⟨gb232, 0, none⟩ = some (.int .i64 a0_0) ∧ w141.cell? ⟨gb232, 1, none⟩ = some (.slice A0_1 l0_1.length c0_1) ∧ w141.cell? ⟨gb232, 2, none⟩ = some (.slice A0_2 l0_2.length c0_2) := hS_
 obtain ⟨Ao142, co142, eo142⟩ := Kd.R_slice HO240.out
 (first | subst eo142 | (injection eo142 with f1_ f2_ f3_; have f4_ := f1_.symm; have f5_ := f3_.symm; clear f1_ f2_ f3_; subst f4_; subst f5_))
 refine norm_ (a' := ?_) ?_ ?_
 rotate_left
 ·
  simp only [putAll, Act.put, List.setIfInBounds_toArray, List.set_cons_zero, List.set_cons_succ]
  rfl
 refine one_ (i := 7) (N := none) #[true, true, true, true, true, true, true, true] rfl rfl (one_of HT_.out (by kernel_rfl)) (by decide) (fun K hK => ?_)
 have hs143 : w141.cell? ⟨gb241, 0, none⟩ = some (.int .i64 0) := (blk_cell BK241.out 0).trans rfl
 have hfs143 := blk_frozen BK241.out 0
 have hns143_0 := NB232_241.out
 have hns143_1 := NB233_241.out
 have hns143_2 := NB234_241.out
 have hms143_0 := NB241_232.out
 have hms143_1 := NB241_233.out
 have hms143_2 := NB241_234.out
 have hs144 : w141.cell? ⟨gb241, 1, none⟩ = some (.slice none 0 0) := (blk_cell BK241.out 1).trans rfl
 have hfs144 := blk_frozen BK241.out 1
 have hns144_0 := NB232_241.out
 have hns144_1 := NB233_241.out
 have hns144_2 := NB234_241.out
 have hms144_0 := NB241_232.out
 have hms144_1 := NB241_233.out
 have hms144_2 := NB241_234.out
 have hs145 : w141.cell? ⟨gb241, 2, none⟩ = some (.slice none 0 0) := (blk_cell BK241.out 2).trans rfl
 have hfs145 := blk_frozen BK241.out 2
 have hns145_0 := NB232_241.out
 have hns145_1 := NB233_241.out
 have hns145_2 := NB234_241.out
 have hms145_0 := NB241_232.out
 have hms145_1 := NB241_233.out
 have hms145_2 := NB241_234.out
 refine skip_ (w1 := ?_) (by rfl) rfl ?_ ?_
 rotate_left
 ·
  go_simp
  rfl
 refine hK.out _ _ ⟨((cell_far (p := ⟨gb241, _, none⟩) NB232_241.out _).trans (((cell_far (p := ⟨gb241, _, none⟩) NB232_241.out _).trans (((cell_far (p := ⟨gb241, _, none⟩) NB232_241.out _).trans (hHeld.1)))))), ((cell_far (p := ⟨gb241, _, none⟩) NB232_241.out _).trans (((cell_far (p := ⟨gb241, _, none⟩) NB232_241.out _).trans (((cell_far (p := ⟨gb241, _, none⟩) NB232_241.out _).trans (hHeld.2.1)))))), ((cell_far (p := ⟨gb241, _, none⟩) NB232_241.out _).trans (((cell_far (p := ⟨gb241, _, none⟩) NB232_241.out _).trans (((cell_far (p := ⟨gb241, _, none⟩) NB232_241.out _).trans (hHeld.2.2))))))⟩ (fun hHeld => ?_)
 clear hK K
 refine done_ (done_of HT_.out (by kernel_rfl)) ?_
 have n0_ : Aside0 (Kd.R (Kd.int .u8) 5 (((w141.setCell ⟨gb241, 0, none⟩ (.int .i64 a0_0)).setCell ⟨gb241, 1, none⟩ (.slice Ao142 t238.length co142)).setCell ⟨gb241, 2, none⟩ (.slice none 0 0)) w.heap.size (fun _ => True) (.slice Ao142 t238.length co142) t238) := ⟨by (with_reducible repeat (first | apply Kd.R_alloc | apply Kd.R_drewN | apply Kd.R_drew)); exact Kd.R_mono (rfg3 HO240.out BK241.out) (fun _ hk => trivial)⟩
 have n1_ : Aside0 ((((w141.setCell ⟨gb241, 0, none⟩ (.int .i64 a0_0)).setCell ⟨gb241, 1, none⟩ (.slice Ao142 t238.length co142)).setCell ⟨gb241, 2, none⟩ (.slice none 0 0)).heap[gb232]? = some (.cells #[.int .i64 a0_0, .slice A0_1 l0_1.length c0_1, .slice A0_2 l0_2.length c0_2] 34 (0, 0))) := ⟨bf1 NB232_241.out BK232.out⟩
 have n2_ : Aside0 ((((w141.setCell ⟨gb241, 0, none⟩ (.int .i64 a0_0)).setCell ⟨gb241, 1, none⟩ (.slice Ao142 t238.length co142)).setCell ⟨gb241, 2, none⟩ (.slice none 0 0)).heap[gb233]? = some (.cells #[.int .i64 a1_0, .int .i64 a1_1, .slice A1_2 l1_2.length c1_2, .int .u64 a1_3] 25 (0, 0))) := ⟨bf1 NB233_241.out BK233.out⟩
 have n3_ : Aside0 ((((w141.setCell ⟨gb241, 0, none⟩ (.int .i64 a0_0)).setCell ⟨gb241, 1, none⟩ (.slice Ao142 t238.length co142)).setCell ⟨gb241, 2, none⟩ (.slice none 0 0)).heap[gb234]? = some (.cells #[.int .i64 0, .slice none 0 0, .slice none 0 0] 34 (0, 0))) := ⟨bf1 NB234_241.out BK234.out⟩
 have n4_ : Aside0 ((((w141.setCell ⟨gb241, 0, none⟩ (.int .i64 a0_0)).setCell ⟨gb241, 1, none⟩ (.slice Ao142 t238.length co142)).setCell ⟨gb241, 2, none⟩ (.slice none 0 0)).heap[gb241]? = some (.cells #[.int .i64 a0_0, .slice Ao142 t238.length co142, .slice none 0 0] 34 (0, 0))) := ⟨by (with_reducible repeat (first | refine blk_drewN ?_ _ | refine blk_drew ?_ | refine blk_alloc ?_ _)); refine blk_put (cs := #[.int .i64 a0_0, .slice Ao142 t238.length co142, .slice none 0 0]) ?_ 2 _ rfl; (with_reducible repeat (first | refine blk_drewN ?_ _ | refine blk_drew ?_ | refine blk_alloc ?_ _)); refine blk_put (cs := #[.int .i64 a0_0, .slice none 0 0, .slice none 0 0]) ?_ 1 _ rfl; (with_reducible repeat (first | refine blk_drewN ?_ _ | refine blk_drew ?_ | refine blk_alloc ?_ _)); refine blk_put (cs := #[.int .i64 0, .slice none 0 0, .slice none 0 0]) ?_ 0 _ rfl; (with_reducible repeat (first | refine blk_drewN ?_ _ | refine blk_drew ?_ | refine blk_alloc ?_ _)); exact BK241.out⟩
 have n5_ : Aside0 (Below w.heap.size w (((w141.setCell ⟨gb241, 0, none⟩ (.int .i64 a0_0)).setCell ⟨gb241, 1, none⟩ (.slice Ao142 t238.length co142)).setCell ⟨gb241, 2, none⟩ (.slice none 0 0))) := ⟨hz4 HB.out GE232.out GE233.out GE234.out GE241.out⟩
 (try clear HO240)
 (try clear BK232)
 (try clear BK233)
 (try clear BK234)
 (try clear BK241)
 (try clear HB)
 generalize (((w141.setCell ⟨gb241, 0, none⟩ (.int .i64 a0_0)).setCell ⟨gb241, 1, none⟩ (.slice Ao142 t238.length co142)).setCell ⟨gb241, 2, none⟩ (.slice none 0 0)) = w146 at n0_ n1_ n2_ n3_ n4_ n5_ ⊢
 have HO240 := n0_
 have BK232 := n1_
 have BK233 := n2_
 have BK234 := n3_
 have BK241 := n4_
 have HB := n5_
 clear n0_ n1_ n2_ n3_ n4_ n5_
 have hnb147 := NB233_241.out
 have hnc147 := NB241_233.out
 have hcz148_0 : w146.cell? ⟨gb233, 0, none⟩ = some (.int .i64 a1_0) := (blk_cell BK233.out 0).trans rfl
 have hcz148_1 : w146.cell? ⟨gb233, 1, none⟩ = some (.int .i64 a1_1) := (blk_cell BK233.out 1).trans rfl
 have hcz148_2 : w146.cell? ⟨gb233, 2, none⟩ = some (.slice A1_2 l1_2.length c1_2) := (blk_cell BK233.out 2).trans rfl
 have hcz148_3 : w146.cell? ⟨gb233, 3, none⟩ = some (.int .u64 a1_3) := (blk_cell BK233.out 3).trans rfl
 have hfz148_0 := blk_frozen BK233.out 0
 have hfz148_1 := blk_frozen BK233.out 1
 have hfz148_2 := blk_frozen BK233.out 2
 have hfz148_3 := blk_frozen BK233.out 3
 have hnb149 := NB232_241.out
 have hnc149 := NB241_232.out
 have hcz150_0 : w146.cell? ⟨gb232, 0, none⟩ = some (.int .i64 a0_0) := (blk_cell BK232.out 0).trans rfl
 have hcz150_1 : w146.cell? ⟨gb232, 1, none⟩ = some (.slice A0_1 l0_1.length c0_1) := (blk_cell BK232.out 1).trans rfl
 have hcz150_2 : w146.cell? ⟨gb232, 2, none⟩ = some (.slice A0_2 l0_2.length c0_2) := (blk_cell BK232.out 2).trans rfl
 have hfz150_0 := blk_frozen BK232.out 0
 have hfz150_1 := blk_frozen BK232.out 1
 have hfz150_2 := blk_frozen BK232.out 2
 have hnb151 := NB241_234.out
 have hnc151 := NB234_241.out
 have hcz152_0 : w146.cell? ⟨gb241, 0, none⟩ = some (.int .i64 a0_0) := (blk_cell BK241.out 0).trans rfl
 have hcz152_1 : w146.cell? ⟨gb241, 1, none⟩ = some (.slice Ao142 t238.length co142) := (blk_cell BK241.out 1).trans rfl
 have hcz152_2 : w146.cell? ⟨gb241, 2, none⟩ = some (.slice none 0 0) := (blk_cell BK241.out 2).trans rfl
 have hfz152_0 := blk_frozen BK241.out 0
 have hfz152_1 := blk_frozen BK241.out 1
 have hfz152_2 := blk_frozen BK241.out 2
 try go_wp2_with (first | ((with_reducible refine gate_callee (f := 43) rfl ?_); refine goesL_ (some 102) rfl rfl Try.func43 (by kernel_rfl) rfl #[.slice Ao142 t238.length co142, .agg #[.int .i64 a1_0, .int .i64 a1_1, .slice A1_2 l1_2.length c1_2, .int .u64 a1_3]] rfl lz ?_; (with_reducible refine (upload_extended.calls (fun k_ => some k_ = (.slice Ao142 t238.length co142 : Value).ownBlock) (.slice Ao142 t238.length co142) t238 a1_0 a1_1 _ _ l1_2 a1_3 t282 w _ ?side1 ?side2 ?side3 ?side4 A123.out).mono ?_); (case side1 => repeat (first | (with_reducible first | exact HB.out | apply below_alloc | apply pw_below_drewN | apply below_drew1 | refine below_set ?_ GE232.out | refine below_set ?_ GE233.out | refine below_set ?_ GE234.out | refine below_set ?_ GE241.out) | exact HB.out)); (case side2 => exact Kd.R_tight rfl HO240.out); (case side3 => exact Kd.C_kept_came (Kd.heap_int .u8) HR1_2.out (hz4 HB.out GE232.out GE233.out GE234.out GE241.out) (fun k_ hs_ => (fun e_ => Kd.R_base HO240.out k_ e_.symm) hs_)); (case side4 => exact HC1_2.out); rintro e w153 ⟨v283, rfl, ho0, hb, hkp⟩; refine ⟨_, rfl, ?_⟩; replace BK232 := am (blk_kept (bz BK232.out) hkp (fun hs_ => (fun e_ => (Kd.R_ne HO240.out BK232.out (by decide)) e_) hs_)); replace BK233 := am (blk_kept (bz BK233.out) hkp (fun hs_ => (fun e_ => (Kd.R_ne HO240.out BK233.out (by decide)) e_) hs_)); replace BK234 := am (blk_kept (bz BK234.out) hkp (fun hs_ => (fun e_ => (Kd.R_ne HO240.out BK234.out (by decide)) e_) hs_)); replace BK241 := am (blk_kept (bz BK241.out) hkp (fun hs_ => (fun e_ => (Kd.R_ne HO240.out BK241.out (by decide)) e_) hs_)); have HO284 := am (Kd.R_mono (ok' := fun k_ => True) ho0 (fun k_ hk_ => trivial)); replace HB := am (hb); clear HO240; (try clear hb); (try clear hkp); (try clear ho0); obtain ⟨Ao154, co154, eo154⟩ := Kd.R_slice HO284.out; subst eo154; obtain ⟨hcz155_0, hcz155_1, hcz155_2⟩ := cs3 BK241.out; obtain ⟨hfz155_0, hfz155_1, hfz155_2⟩ := fs3 BK241.out; obtain ⟨hcz156_0, hcz156_1, hcz156_2⟩ := cs3 BK232.out; obtain ⟨hfz156_0, hfz156_1, hfz156_2⟩ := fs3 BK232.out))
 go_loopg [107] k (fun kq v107 w' => ∃ (x107_1 : Int) (x242001_1 : List Int) (x242002_1 : List (S25)) (u242001 : Value) (u242002 : Value), v107 = .int .i64 x107_1 ∧ Aside0 (upload_Receive.l1 kq l0_2 (l0_2.length : Int) x107_1 a0_0 x242001_1 x242002_1 = some (r1, r2, r3, r4)) ∧ Aside0 (kq ≤ k) ∧ Aside0 (Kd.R (Kd.int .u8) 5 w' w.heap.size (fun _ => True) u242001 x242001_1) ∧ Aside0 (Kd.S k25 25 w' w.heap.size (fun k_ => some k_ ≠ (u242001 : Value).ownBlock ∧ k_ ≠ gb233) u242002 x242002_1) ∧ Aside0 (w'.heap[gb232]? = some (.cells #[.int .i64 a0_0, (.slice A0_1 l0_1.length c0_1), (.slice A0_2 l0_2.length c0_2)] 34 (0, 0))) ∧ Aside0 (w'.heap[gb233]? = some (.cells #[.int .i64 a1_0, .int .i64 a1_1, (.slice A1_2 l1_2.length c1_2), .int .u64 a1_3] 25 (0, 0))) ∧ Aside0 (w'.heap[gb234]? = some (.cells #[.int .i64 0, (.slice none 0 0), (.slice none 0 0)] 34 (0, 0))) ∧ Aside0 (w'.heap[gb241]? = some (.cells #[.int .i64 a0_0, u242001, u242002] 34 (0, 0))) ∧ Aside0 (Below w.heap.size w w'))
 case atStart => exact ⟨(0), (t282), (([] : List (S25))), (.slice Ao154 t282.length co154), (.slice none 0 0), (by first | rfl | (simp; done) | (simp [*]; done)), H', ⟨Nat.le_refl _⟩, ⟨by (with_reducible repeat (first | apply Kd.R_alloc | apply Kd.R_drewN | apply Kd.R_drew)); exact Kd.R_mono (Kd.R_far (p := ⟨gb241, 1, none⟩) (Kd.R_types HO284.out BK241.out (by decide)) (fun _ hk => hk.2) (.slice Ao154 t282.length co154)) (fun _ hk => trivial)⟩, ⟨by first | exact Kd.S_nil _ _ _ _ _ | exact Kd.N_nil _ _ _ _ _ | exact Kd.V_nil _ _ _ _ _ | exact Kd.Q_nil _ _ _ _ _ | exact Kd.R_nil _ _ _ _ _⟩, ⟨bf1 NB232_241.out BK232.out⟩, ⟨bf1 NB233_241.out BK233.out⟩, ⟨bf1 NB234_241.out BK234.out⟩, ⟨by (with_reducible repeat (first | refine blk_drewN ?_ _ | refine blk_drew ?_ | refine blk_alloc ?_ _)); refine blk_put (cs := #[.int .i64 a0_0, .slice Ao142 t238.length co142, .slice none 0 0]) ?_ 1 _ rfl; (with_reducible repeat (first | refine blk_drewN ?_ _ | refine blk_drew ?_ | refine blk_alloc ?_ _)); exact BK241.out⟩, ⟨hz4 HB.out GE232.out GE233.out GE234.out GE241.out⟩⟩
 case round =>
  clear H'
  try clear c1
  try clear c2
  try clear p2
  try clear c3
  try clear c4
  try clear c9
  try clear c10
  try clear c11
  try clear c11b0
  try clear c12
  try clear c13
  try clear c14
  try clear c15
  try clear c20
  try clear c26
  try clear c36
  try clear c37
  try clear c38
  try clear c42
  try clear c43
  try clear c99
  try clear c109
  try clear c116
  try clear c117
  try clear c118
  try clear c120
  try clear c121
  try clear c127
  try clear c128
  try clear c131
  try clear c147
  try clear c149
  try clear c151
  try clear hcz106_2
  try clear hcz119_0
  try clear hcz119_1
  try clear hcz119_2
  try clear hcz122_0
  try clear hcz122_1
  try clear hcz122_2
  try clear hcz129_0
  try clear hcz129_1
  try clear hcz129_2
  try clear hcz132_0
  try clear hcz132_1
  try clear hcz132_2
  try clear hcz132_3
  try clear hcz134_0
  try clear hcz134_1
  try clear hcz134_2
  try clear hcz134_3
  try clear hcz135_0
  try clear hcz135_1
  try clear hcz135_2
  try clear hcz148_0
  try clear hcz148_1
  try clear hcz148_2
  try clear hcz148_3
  try clear hcz150_0
  try clear hcz150_1
  try clear hcz150_2
  try clear hcz152_0
  try clear hcz152_1
  try clear hcz152_2
  try clear hcz155_0
  try clear hcz155_1
  try clear hcz155_2
  try clear hcz156_0
  try clear hcz156_1
  try clear hcz156_2
  try clear hfz106_0
  try clear hfz106_1
  try clear hfz106_2
  try clear hfz119_0
  try clear hfz119_1
  try clear hfz119_2
  try clear hfz122_0
  try clear hfz122_1
  try clear hfz122_2
  try clear hfz129_0
  try clear hfz129_1
  try clear hfz129_2
  try clear hfz132_0
  try clear hfz132_1
  try clear hfz132_2
  try clear hfz132_3
  try clear hfz134_0
  try clear hfz134_1
  try clear hfz134_2
  try clear hfz134_3
  try clear hfz135_0
  try clear hfz135_1
  try clear hfz135_2
  try clear hfz148_0
  try clear hfz148_1
  try clear hfz148_2
  try clear hfz148_3
  try clear hfz150_0
  try clear hfz150_1
  try clear hfz150_2
  try clear hfz152_0
  try clear hfz152_1
  try clear hfz152_2
  try clear hfz155_0
  try clear hfz155_1
  try clear hfz155_2
  try clear hfz156_0
  try clear hfz156_1
  try clear hfz156_2
  obtain ⟨x107_1, x242001_1, x242002_1, u242001, u242002, rfl, HA, HK1, HO_242001, HO_242002, BK232, BK233, BK234, BK241, HB⟩ := hrel
  cases gk with
  | zero => exact absurd HA.out (by simp [upload_Receive.l1])
  | succ k1 =>
   have H := HA.out
   clear HA
   simp only [upload_Receive.l1] at H
   by_cases c157 : x107_1 < (l0_2.length : Int)
   ·
    rw [if_pos c157] at H
    have c157b0 : decide (x107_1 < (l0_2.length : Int)) = true := decide_eq_true c157
    clear c157
    replace H := it_ H
    obtain ⟨c158, H⟩ := H
    have c158b0 : decide (0 ≤ x107_1) = true := decide_eq_true c158
    clear c158
    replace H := it_ H
    obtain ⟨c159, H⟩ := H
    have c159b0 : decide (x107_1 < (l0_2.length : Int)) = true := decide_eq_true c159
    clear c159
    by_cases c160 : ((rd_T25 l0_2 x107_1).f1) ≤ (x242001_1.length : Int)
    ·
     rw [if_pos c160] at H
     have c160b0 : decide (((rd_T25 l0_2 x107_1).f1) ≤ (x242001_1.length : Int)) = true := decide_eq_true c160
     clear c160
     replace H := Option.bind_eq_some_iff.mp H
     obtain ⟨t287, A1610, H⟩ := H
     replace H : (upload_Receive.l1 k1 l0_2 (l0_2.length : Int) (wrap64 (x107_1 + 1)) a0_0 t287 x242002_1) = some (r1, r2, r3, r4) := H
     have A161 := am A1610
     clear A1610
     have H' := am H
     clear H
     have p285 : 0 ≤ (x107_1 : Int) := of_decide_eq_true az
     have q285 : x107_1 < (l0_2.length : Int) := of_decide_eq_true az
     obtain ⟨ad285, A285_2, c285_2, e285, hx285_0, hx285_1, hx285_2, hx285_3, hl285_2, hi285_2⟩ := at_T25 HR0_2.out x107_1 p285 q285
     cases e285
     replace hx285_0 := (HB.out.cell (World.block_lt_of_cell? w _ hx285_0)).trans hx285_0
     replace hx285_1 := (HB.out.cell (World.block_lt_of_cell? w _ hx285_1)).trans hx285_1
     replace hx285_2 := (HB.out.cell (World.block_lt_of_cell? w _ hx285_2)).trans hx285_2
     replace hx285_3 := (HB.out.cell (World.block_lt_of_cell? w _ hx285_3)).trans hx285_3
     have HR285_2 := am hi285_2
     have HC285_2 := am hl285_2
     clear hi285_2 hl285_2
     replace p285 := eq_true p285
     replace q285 := eq_true q285
     go_wp2_with (first | ((with_reducible refine gate_dst (N := 13) rfl ?_); (try (refine gate_guard (by rfl) ?_; dsimp only)); refine box_event ?hg (N := 13) ?hd (cs := #[.int .i64 0, .int .i64 0, .slice none 0 0, .int .u64 0]) (t := 25) ?hr ?_; (case hd => rfl); (case hg => rfl); (case hr => exact gz); intro gb286 hg w162 hbox hb; replace HO_242001 := am (Kd.R_below (rz HO_242001.out) hb); replace HO_242002 := am (Kd.S_below (Kd.S_elderB (sz HO_242002.out) gb286 (Nat.le_of_eq hg.symm)) hb); have BK286 := am (hbox); have GW286 := am ((bs hg (hz4 HB.out GE232.out GE233.out GE234.out GE241.out) : w.heap.size ≤ gb286)); have GE286 := am ((bs hg (hz4 HB.out GE232.out GE233.out GE234.out GE241.out) : w.heap.size ≤ gb286)); replace HB := am (below_step (hz4 HB.out GE232.out GE233.out GE234.out GE241.out) hb); have NB232_286 := am ((nl hg (bz BK232.out) : gb232 ≠ gb286)); have NB286_232 := am ((ng hg (bz BK232.out) : gb286 ≠ gb232)); replace BK232 := am (blk_below (bz BK232.out) hb); have NB233_286 := am ((nl hg (bz BK233.out) : gb233 ≠ gb286)); have NB286_233 := am ((ng hg (bz BK233.out) : gb286 ≠ gb233)); replace BK233 := am (blk_below (bz BK233.out) hb); have NB234_286 := am ((nl hg (bz BK234.out) : gb234 ≠ gb286)); have NB286_234 := am ((ng hg (bz BK234.out) : gb286 ≠ gb234)); replace BK234 := am (blk_below (bz BK234.out) hb); have NB241_286 := am ((nl hg (bz BK241.out) : gb241 ≠ gb286)); have NB286_241 := am ((ng hg (bz BK241.out) : gb286 ≠ gb241)); replace BK241 := am (blk_below (bz BK241.out) hb); clear hb hbox hg; have hnb163 := NB286_232.out; have hnc163 := NB232_286.out; have hnb164 := NB286_233.out; have hnc164 := NB233_286.out; have hnb165 := NB286_234.out; have hnc165 := NB234_286.out; have hnb166 := NB286_241.out; have hnc166 := NB241_286.out; obtain ⟨hcz167_0, hcz167_1, hcz167_2, hcz167_3⟩ := cs4 BK286.out; obtain ⟨hfz167_0, hfz167_1, hfz167_2, hfz167_3⟩ := fs4 BK286.out) | ((with_reducible refine gate_store (t := 25) (p := 13) rfl ?_); refine store_event (t := 25) (p := 13) (v := ?vo_w168) (w1 := ((((w162.setCell ⟨gb286, 0, none⟩ (.int .i64 ((rd_T25 l0_2 x107_1).f0))).setCell ⟨gb286, 1, none⟩ (.int .i64 ((rd_T25 l0_2 x107_1).f1))).setCell ⟨gb286, 2, none⟩ (.slice A285_2 ((rd_T25 l0_2 x107_1).f2).length c285_2)).setCell ⟨gb286, 3, none⟩ (.int .u64 ((rd_T25 l0_2 x107_1).f3)))) ?hg ?ho ?hn ?hr ?_; (case ho => rfl); (case hg => rfl); (case hn => rfl); (case hr => exact gz); intro w168 hw; replace HO_242001 : Aside0 (Kd.R (Kd.int .u8) 5 w168 w.heap.size (fun _ => True) u242001 x242001_1) := ⟨(by rw [hw]; exact (rz (Kd.R_mono (rfg4 HO_242001.out BK286.out) (fun _ hk => trivial))))⟩; replace HO_242002 : Aside0 (Kd.S k25 25 w168 w.heap.size (fun k_ => some k_ ≠ (u242001 : Value).ownBlock ∧ k_ ≠ gb233 ∧ k_ ≠ gb286) u242002 x242002_1) := ⟨(by rw [hw]; exact (sz (Kd.S_mono (Kd.S_far (p := ⟨gb286, 3, none⟩) (Kd.S_far (p := ⟨gb286, 2, none⟩) (Kd.S_far (p := ⟨gb286, 1, none⟩) (Kd.S_far (p := ⟨gb286, 0, none⟩) (Kd.S_mono HO_242002.out (fun k_ hk => (⟨hk, hk.2⟩ : _ ∧ k_ ≠ gb286))) (fun _ hk => hk.2) (.int .i64 ((rd_T25 l0_2 x107_1).f0))) (fun _ hk => hk.2) (.int .i64 ((rd_T25 l0_2 x107_1).f1))) (fun _ hk => hk.2) (.slice A285_2 ((rd_T25 l0_2 x107_1).f2).length c285_2)) (fun _ hk => hk.2) (.int .u64 ((rd_T25 l0_2 x107_1).f3))) (fun _ hk => ⟨hk.1.1.1, ⟨hk.1.1.2, hk.1.2⟩⟩))))⟩; replace BK232 : Aside0 (w168.heap[gb232]? = some (.cells #[.int .i64 a0_0, .slice A0_1 l0_1.length c0_1, .slice (some ad285) l0_2.length c0_2] 34 (0, 0))) := ⟨(by rw [hw]; exact (bf1 NB232_286.out BK232.out))⟩; replace BK233 : Aside0 (w168.heap[gb233]? = some (.cells #[.int .i64 a1_0, .int .i64 a1_1, .slice A1_2 l1_2.length c1_2, .int .u64 a1_3] 25 (0, 0))) := ⟨(by rw [hw]; exact (bf1 NB233_286.out BK233.out))⟩; replace BK234 : Aside0 (w168.heap[gb234]? = some (.cells #[.int .i64 0, .slice none 0 0, .slice none 0 0] 34 (0, 0))) := ⟨(by rw [hw]; exact (bf1 NB234_286.out BK234.out))⟩; replace BK241 : Aside0 (w168.heap[gb241]? = some (.cells #[.int .i64 a0_0, u242001, u242002] 34 (0, 0))) := ⟨(by rw [hw]; exact (bf1 NB241_286.out BK241.out))⟩; replace BK286 : Aside0 (w168.heap[gb286]? = some (.cells #[.int .i64 ((rd_T25 l0_2 x107_1).f0), .int .i64 ((rd_T25 l0_2 x107_1).f1), .slice A285_2 ((rd_T25 l0_2 x107_1).f2).length c285_2, .int .u64 ((rd_T25 l0_2 x107_1).f3)] 25 (0, 0))) := ⟨(by rw [hw]; exact (by (with_reducible repeat (first | refine blk_drewN ?_ _ | refine blk_drew ?_ | refine blk_alloc ?_ _)); refine blk_put (cs := #[.int .i64 ((rd_T25 l0_2 x107_1).f0), .int .i64 ((rd_T25 l0_2 x107_1).f1), .slice A285_2 ((rd_T25 l0_2 x107_1).f2).length c285_2, .int .u64 0]) ?_ 3 _ rfl; (with_reducible repeat (first | refine blk_drewN ?_ _ | refine blk_drew ?_ | refine blk_alloc ?_ _)); refine blk_put (cs := #[.int .i64 ((rd_T25 l0_2 x107_1).f0), .int .i64 ((rd_T25 l0_2 x107_1).f1), .slice none 0 0, .int .u64 0]) ?_ 2 _ rfl; (with_reducible repeat (first | refine blk_drewN ?_ _ | refine blk_drew ?_ | refine blk_alloc ?_ _)); refine blk_put (cs := #[.int .i64 ((rd_T25 l0_2 x107_1).f0), .int .i64 0, .slice none 0 0, .int .u64 0]) ?_ 1 _ rfl; (with_reducible repeat (first | refine blk_drewN ?_ _ | refine blk_drew ?_ | refine blk_alloc ?_ _)); refine blk_put (cs := #[.int .i64 0, .int .i64 0, .slice none 0 0, .int .u64 0]) ?_ 0 _ rfl; (with_reducible repeat (first | refine blk_drewN ?_ _ | refine blk_drew ?_ | refine blk_alloc ?_ _)); exact BK286.out))⟩; replace HB : Aside0 (Below w.heap.size w w168) := ⟨(by rw [hw]; exact (hz5 HB.out GE232.out GE233.out GE234.out GE241.out GE286.out))⟩; clear hw; obtain ⟨hcz169_0, hcz169_1, hcz169_2, hcz169_3⟩ := cs4 BK286.out; obtain ⟨hfz169_0, hfz169_1, hfz169_2, hfz169_3⟩ := fs4 BK286.out; have hnb170 := NB241_232.out; have hnc170 := NB232_241.out; have hnb171 := NB241_233.out; have hnc171 := NB233_241.out; have hnb172 := NB241_234.out; have hnc172 := NB234_241.out; obtain ⟨hcz173_0, hcz173_1, hcz173_2⟩ := cs3 BK241.out; obtain ⟨hfz173_0, hfz173_1, hfz173_2⟩ := fs3 BK241.out; obtain ⟨Ao174, co174, eo174⟩ := Kd.R_slice HO_242001.out; subst eo174) | ((with_reducible refine gate_callee (f := 43) rfl ?_); refine goesL_ (some 120) rfl rfl Try.func43 (by kernel_rfl) rfl #[.slice Ao174 x242001_1.length co174, .agg #[.int .i64 ((rd_T25 l0_2 x107_1).f0), .int .i64 ((rd_T25 l0_2 x107_1).f1), .slice A285_2 ((rd_T25 l0_2 x107_1).f2).length c285_2, .int .u64 ((rd_T25 l0_2 x107_1).f3)]] rfl lz ?_; (with_reducible refine (upload_extended.calls (fun k_ => some k_ = (.slice Ao174 x242001_1.length co174 : Value).ownBlock) (.slice Ao174 x242001_1.length co174) x242001_1 ((rd_T25 l0_2 x107_1).f0) ((rd_T25 l0_2 x107_1).f1) _ _ ((rd_T25 l0_2 x107_1).f2) ((rd_T25 l0_2 x107_1).f3) t287 w _ ?side1 ?side2 ?side3 ?side4 A161.out).mono ?_); (case side1 => repeat (first | (with_reducible first | exact HB.out | apply below_alloc | apply pw_below_drewN | apply below_drew1 | refine below_set ?_ GE232.out | refine below_set ?_ GE233.out | refine below_set ?_ GE234.out | refine below_set ?_ GE241.out | refine below_set ?_ GE286.out) | exact HB.out)); (case side2 => exact Kd.R_tight rfl HO_242001.out); (case side3 => exact Kd.C_kept_came (Kd.heap_int .u8) HR285_2.out (hz5 HB.out GE232.out GE233.out GE234.out GE241.out GE286.out) (fun k_ hs_ => (fun e_ => Kd.R_base HO_242001.out k_ e_.symm) hs_)); (case side4 => exact HC285_2.out); rintro e w175 ⟨v288, rfl, ho0, hb, hkp⟩; refine ⟨_, rfl, ?_⟩; replace HO_242002 := am (Kd.S_mono (ok' := fun k_ => k_ ≠ gb233 ∧ k_ ≠ gb286 ∧ some k_ ≠ (v288 : Value).ownBlock) (Kd.S_keptB (HO_242002.out) hkp (fun k_ hk_ hs_ => (hk_.1) hs_)) (fun k_ hk_ => ⟨hk_.1.2.1, hk_.1.2.2, fun e_ => Or.elim (ho0.1 k_ e_.symm) (fun hs_ => hk_.2.1 hs_) (fun hn_ => Nat.not_le.2 hk_.2.2 hn_)⟩)); replace BK232 := am (blk_kept (bz BK232.out) hkp (fun hs_ => (fun e_ => (Kd.R_ne HO_242001.out BK232.out (by decide)) e_) hs_)); replace BK233 := am (blk_kept (bz BK233.out) hkp (fun hs_ => (fun e_ => (Kd.R_ne HO_242001.out BK233.out (by decide)) e_) hs_)); replace BK234 := am (blk_kept (bz BK234.out) hkp (fun hs_ => (fun e_ => (Kd.R_ne HO_242001.out BK234.out (by decide)) e_) hs_)); replace BK241 := am (blk_kept (bz BK241.out) hkp (fun hs_ => (fun e_ => (Kd.R_ne HO_242001.out BK241.out (by decide)) e_) hs_)); replace BK286 := am (blk_kept (bz BK286.out) hkp (fun hs_ => (fun e_ => (Kd.R_ne HO_242001.out BK286.out (by decide)) e_) hs_)); have HO289 := am (Kd.R_mono (ok' := fun k_ => True) ho0 (fun k_ hk_ => trivial)); replace HB := am (hb); clear HO_242001; (try clear hb); (try clear hkp); (try clear ho0); obtain ⟨Ao176, co176, eo176⟩ := Kd.R_slice HO289.out; subst eo176; obtain ⟨hcz177_0, hcz177_1, hcz177_2⟩ := cs3 BK241.out; obtain ⟨hfz177_0, hfz177_1, hfz177_2⟩ := fs3 BK241.out))
     go_roundg k1
     case measure => have := HK1.out; omega
     case rel => exact ⟨(wrap64 (x107_1 + 1)), (t287), (x242002_1), (.slice Ao176 t287.length co176), (u242002), (by first | rfl | (simp; done) | (simp [*]; done)), H', ⟨by have := HK1.out; omega⟩, ⟨by (with_reducible repeat (first | apply Kd.R_alloc | apply Kd.R_drewN | apply Kd.R_drew)); exact Kd.R_mono (Kd.R_far (p := ⟨gb241, 1, none⟩) (Kd.R_types HO289.out BK241.out (by decide)) (fun _ hk => hk.2) (.slice Ao176 t287.length co176)) (fun _ hk => trivial)⟩, ⟨by (with_reducible repeat (first | apply Kd.S_alloc | apply Kd.S_drewN | apply Kd.S_drew)); exact Kd.S_mono (Kd.S_far (p := ⟨gb241, 1, none⟩) (Kd.S_types HO_242002.out BK241.out (by decide)) (fun _ hk => hk.2) (.slice Ao176 t287.length co176)) (fun _ hk => ⟨hk.1.2.2, hk.1.1⟩)⟩, ⟨bf1 NB232_241.out BK232.out⟩, ⟨bf1 NB233_241.out BK233.out⟩, ⟨bf1 NB234_241.out BK234.out⟩, ⟨by (with_reducible repeat (first | refine blk_drewN ?_ _ | refine blk_drew ?_ | refine blk_alloc ?_ _)); refine blk_put (cs := #[.int .i64 a0_0, .slice Ao174 x242001_1.length co174, u242002]) ?_ 1 _ rfl; (with_reducible repeat (first | refine blk_drewN ?_ _ | refine blk_drew ?_ | refine blk_alloc ?_ _)); exact BK241.out⟩, ⟨hz5 HB.out GE232.out GE233.out GE234.out GE241.out GE286.out⟩⟩
    ·
     rw [if_neg c160] at H
     have c160b0 : decide (((rd_T25 l0_2 x107_1).f1) ≤ (x242001_1.length : Int)) = false := decide_eq_false c160
     clear c160
     replace H := Option.bind_eq_some_iff.mp H
     obtain ⟨⟨t290, t291, t292, t295⟩, A1780, H⟩ := H
     replace H : (if x242002_1.length < 2932031007402 then (upload_Receive.l1 k1 l0_2 (l0_2.length : Int) (wrap64 (x107_1 + 1)) a0_0 x242001_1 (x242002_1 ++ [(⟨t290, t291, t292, t295⟩ : S25)])) else (none)) = some (r1, r2, r3, r4) := H
     have A178 := am A1780
     clear A1780
     replace H := it_ H
     obtain ⟨c179, H⟩ := H
     have LMc179 := am c179
     clear c179
     obtain ⟨y296, hy296⟩ : ∃ y_ : List (S25), y_ = (x242002_1 ++ [(⟨t290, t291, t292, t295⟩ : S25)]) := ⟨_, rfl⟩
     replace H : (upload_Receive.l1 k1 l0_2 (l0_2.length : Int) (wrap64 (x107_1 + 1)) a0_0 x242001_1 y296) = some (r1, r2, r3, r4) := by first | (rw [hy296]; with_reducible exact H) | (have H2_ := (Option.bind_some _ _).symm.trans H; rw [hy296]; with_reducible exact H2_) | (have H2_ := (Option.bind_some _ _).symm.trans H; with_reducible exact H2_) | with_reducible exact H | (rw [hy296]; exact H) | exact H
     have Ny296 := am hy296
     clear hy296
     have H' := am H
     clear H
     have p285 : 0 ≤ (x107_1 : Int) := of_decide_eq_true az
     have q285 : x107_1 < (l0_2.length : Int) := of_decide_eq_true az
     obtain ⟨ad285, A285_2, c285_2, e285, hx285_0, hx285_1, hx285_2, hx285_3, hl285_2, hi285_2⟩ := at_T25 HR0_2.out x107_1 p285 q285
     cases e285
     replace hx285_0 := (HB.out.cell (World.block_lt_of_cell? w _ hx285_0)).trans hx285_0
     replace hx285_1 := (HB.out.cell (World.block_lt_of_cell? w _ hx285_1)).trans hx285_1
     replace hx285_2 := (HB.out.cell (World.block_lt_of_cell? w _ hx285_2)).trans hx285_2
     replace hx285_3 := (HB.out.cell (World.block_lt_of_cell? w _ hx285_3)).trans hx285_3
     have HR285_2 := am hi285_2
     have HC285_2 := am hl285_2
     clear hi285_2 hl285_2
     replace p285 := eq_true p285
     replace q285 := eq_true q285
     try go_wp2_with (first | ((with_reducible refine gate_dst (N := 13) rfl ?_); (try (refine gate_guard (by rfl) ?_; dsimp only)); refine box_event ?hg (N := 13) ?hd (cs := #[.int .i64 0, .int .i64 0, .slice none 0 0, .int .u64 0]) (t := 25) ?hr ?_; (case hd => rfl); (case hg => rfl); (case hr => exact gz); intro gb286 hg w180 hbox hb; replace HO_242001 := am (Kd.R_below (rz HO_242001.out) hb); replace HO_242002 := am (Kd.S_below (Kd.S_elderB (sz HO_242002.out) gb286 (Nat.le_of_eq hg.symm)) hb); have BK286 := am (hbox); have GW286 := am ((bs hg (hz4 HB.out GE232.out GE233.out GE234.out GE241.out) : w.heap.size ≤ gb286)); have GE286 := am ((bs hg (hz4 HB.out GE232.out GE233.out GE234.out GE241.out) : w.heap.size ≤ gb286)); replace HB := am (below_step (hz4 HB.out GE232.out GE233.out GE234.out GE241.out) hb); have NB232_286 := am ((nl hg (bz BK232.out) : gb232 ≠ gb286)); have NB286_232 := am ((ng hg (bz BK232.out) : gb286 ≠ gb232)); replace BK232 := am (blk_below (bz BK232.out) hb); have NB233_286 := am ((nl hg (bz BK233.out) : gb233 ≠ gb286)); have NB286_233 := am ((ng hg (bz BK233.out) : gb286 ≠ gb233)); replace BK233 := am (blk_below (bz BK233.out) hb); have NB234_286 := am ((nl hg (bz BK234.out) : gb234 ≠ gb286)); have NB286_234 := am ((ng hg (bz BK234.out) : gb286 ≠ gb234)); replace BK234 := am (blk_below (bz BK234.out) hb); have NB241_286 := am ((nl hg (bz BK241.out) : gb241 ≠ gb286)); have NB286_241 := am ((ng hg (bz BK241.out) : gb286 ≠ gb241)); replace BK241 := am (blk_below (bz BK241.out) hb); clear hb hbox hg; have hnb181 := NB286_232.out; have hnc181 := NB232_286.out; have hnb182 := NB286_233.out; have hnc182 := NB233_286.out; have hnb183 := NB286_234.out; have hnc183 := NB234_286.out; have hnb184 := NB286_241.out; have hnc184 := NB241_286.out; obtain ⟨hcz185_0, hcz185_1, hcz185_2, hcz185_3⟩ := cs4 BK286.out; obtain ⟨hfz185_0, hfz185_1, hfz185_2, hfz185_3⟩ := fs4 BK286.out; have hnb186 := NB241_232.out; have hnc186 := NB232_241.out; have hnb187 := NB241_233.out; have hnc187 := NB233_241.out; have hnb188 := NB241_234.out; have hnc188 := NB234_241.out; obtain ⟨hcz189_0, hcz189_1, hcz189_2⟩ := cs3 BK241.out; obtain ⟨hfz189_0, hfz189_1, hfz189_2⟩ := fs3 BK241.out; obtain ⟨Ao190, co190, eo190⟩ := Kd.R_slice HO_242001.out; subst eo190))
     have n0_ : Aside0 (Kd.R (Kd.int .u8) 5 ((((w180.setCell ⟨gb286, 0, none⟩ (.int .i64 ((rd_T25 l0_2 x107_1).f0))).setCell ⟨gb286, 1, none⟩ (.int .i64 ((rd_T25 l0_2 x107_1).f1))).setCell ⟨gb286, 2, none⟩ (.slice A285_2 ((rd_T25 l0_2 x107_1).f2).length c285_2)).setCell ⟨gb286, 3, none⟩ (.int .u64 ((rd_T25 l0_2 x107_1).f3))) w.heap.size (fun _ => True) (.slice Ao190 x242001_1.length co190) x242001_1) := ⟨by (with_reducible repeat (first | apply Kd.R_alloc | apply Kd.R_drewN | apply Kd.R_drew)); exact Kd.R_mono (rfg4 HO_242001.out BK286.out) (fun _ hk => trivial)⟩
     have n1_ : Aside0 (Kd.S k25 25 ((((w180.setCell ⟨gb286, 0, none⟩ (.int .i64 ((rd_T25 l0_2 x107_1).f0))).setCell ⟨gb286, 1, none⟩ (.int .i64 ((rd_T25 l0_2 x107_1).f1))).setCell ⟨gb286, 2, none⟩ (.slice A285_2 ((rd_T25 l0_2 x107_1).f2).length c285_2)).setCell ⟨gb286, 3, none⟩ (.int .u64 ((rd_T25 l0_2 x107_1).f3))) w.heap.size (fun k_ => some k_ ≠ (.slice Ao190 x242001_1.length co190 : Value).ownBlock ∧ k_ ≠ gb233 ∧ k_ ≠ gb286) u242002 x242002_1) := ⟨by (with_reducible repeat (first | apply Kd.S_alloc | apply Kd.S_drewN | apply Kd.S_drew)); exact Kd.S_mono (Kd.S_far (p := ⟨gb286, 3, none⟩) (Kd.S_far (p := ⟨gb286, 2, none⟩) (Kd.S_far (p := ⟨gb286, 1, none⟩) (Kd.S_far (p := ⟨gb286, 0, none⟩) (Kd.S_mono HO_242002.out (fun k_ hk => (⟨hk, hk.2⟩ : _ ∧ k_ ≠ gb286))) (fun _ hk => hk.2) (.int .i64 ((rd_T25 l0_2 x107_1).f0))) (fun _ hk => hk.2) (.int .i64 ((rd_T25 l0_2 x107_1).f1))) (fun _ hk => hk.2) (.slice A285_2 ((rd_T25 l0_2 x107_1).f2).length c285_2)) (fun _ hk => hk.2) (.int .u64 ((rd_T25 l0_2 x107_1).f3))) (fun _ hk => ⟨hk.1.1.1, ⟨hk.1.1.2, hk.1.2⟩⟩)⟩
     have n2_ : Aside0 (((((w180.setCell ⟨gb286, 0, none⟩ (.int .i64 ((rd_T25 l0_2 x107_1).f0))).setCell ⟨gb286, 1, none⟩ (.int .i64 ((rd_T25 l0_2 x107_1).f1))).setCell ⟨gb286, 2, none⟩ (.slice A285_2 ((rd_T25 l0_2 x107_1).f2).length c285_2)).setCell ⟨gb286, 3, none⟩ (.int .u64 ((rd_T25 l0_2 x107_1).f3))).heap[gb232]? = some (.cells #[.int .i64 a0_0, .slice A0_1 l0_1.length c0_1, .slice (some ad285) l0_2.length c0_2] 34 (0, 0))) := ⟨bf1 NB232_286.out BK232.out⟩
     have n3_ : Aside0 (((((w180.setCell ⟨gb286, 0, none⟩ (.int .i64 ((rd_T25 l0_2 x107_1).f0))).setCell ⟨gb286, 1, none⟩ (.int .i64 ((rd_T25 l0_2 x107_1).f1))).setCell ⟨gb286, 2, none⟩ (.slice A285_2 ((rd_T25 l0_2 x107_1).f2).length c285_2)).setCell ⟨gb286, 3, none⟩ (.int .u64 ((rd_T25 l0_2 x107_1).f3))).heap[gb233]? = some (.cells #[.int .i64 a1_0, .int .i64 a1_1, .slice A1_2 l1_2.length c1_2, .int .u64 a1_3] 25 (0, 0))) := ⟨bf1 NB233_286.out BK233.out⟩
     have n4_ : Aside0 (((((w180.setCell ⟨gb286, 0, none⟩ (.int .i64 ((rd_T25 l0_2 x107_1).f0))).setCell ⟨gb286, 1, none⟩ (.int .i64 ((rd_T25 l0_2 x107_1).f1))).setCell ⟨gb286, 2, none⟩ (.slice A285_2 ((rd_T25 l0_2 x107_1).f2).length c285_2)).setCell ⟨gb286, 3, none⟩ (.int .u64 ((rd_T25 l0_2 x107_1).f3))).heap[gb234]? = some (.cells #[.int .i64 0, .slice none 0 0, .slice none 0 0] 34 (0, 0))) := ⟨bf1 NB234_286.out BK234.out⟩
     have n5_ : Aside0 (((((w180.setCell ⟨gb286, 0, none⟩ (.int .i64 ((rd_T25 l0_2 x107_1).f0))).setCell ⟨gb286, 1, none⟩ (.int .i64 ((rd_T25 l0_2 x107_1).f1))).setCell ⟨gb286, 2, none⟩ (.slice A285_2 ((rd_T25 l0_2 x107_1).f2).length c285_2)).setCell ⟨gb286, 3, none⟩ (.int .u64 ((rd_T25 l0_2 x107_1).f3))).heap[gb241]? = some (.cells #[.int .i64 a0_0, .slice Ao190 x242001_1.length co190, u242002] 34 (0, 0))) := ⟨bf1 NB241_286.out BK241.out⟩
     have n6_ : Aside0 (((((w180.setCell ⟨gb286, 0, none⟩ (.int .i64 ((rd_T25 l0_2 x107_1).f0))).setCell ⟨gb286, 1, none⟩ (.int .i64 ((rd_T25 l0_2 x107_1).f1))).setCell ⟨gb286, 2, none⟩ (.slice A285_2 ((rd_T25 l0_2 x107_1).f2).length c285_2)).setCell ⟨gb286, 3, none⟩ (.int .u64 ((rd_T25 l0_2 x107_1).f3))).heap[gb286]? = some (.cells #[.int .i64 ((rd_T25 l0_2 x107_1).f0), .int .i64 ((rd_T25 l0_2 x107_1).f1), .slice A285_2 ((rd_T25 l0_2 x107_1).f2).length c285_2, .int .u64 ((rd_T25 l0_2 x107_1).f3)] 25 (0, 0))) := ⟨by (with_reducible repeat (first | refine blk_drewN ?_ _ | refine blk_drew ?_ | refine blk_alloc ?_ _)); refine blk_put (cs := #[.int .i64 ((rd_T25 l0_2 x107_1).f0), .int .i64 ((rd_T25 l0_2 x107_1).f1), .slice A285_2 ((rd_T25 l0_2 x107_1).f2).length c285_2, .int .u64 0]) ?_ 3 _ rfl; (with_reducible repeat (first | refine blk_drewN ?_ _ | refine blk_drew ?_ | refine blk_alloc ?_ _)); refine blk_put (cs := #[.int .i64 ((rd_T25 l0_2 x107_1).f0), .int .i64 ((rd_T25 l0_2 x107_1).f1), .slice none 0 0, .int .u64 0]) ?_ 2 _ rfl; (with_reducible repeat (first | refine blk_drewN ?_ _ | refine blk_drew ?_ | refine blk_alloc ?_ _)); refine blk_put (cs := #[.int .i64 ((rd_T25 l0_2 x107_1).f0), .int .i64 0, .slice none 0 0, .int .u64 0]) ?_ 1 _ rfl; (with_reducible repeat (first | refine blk_drewN ?_ _ | refine blk_drew ?_ | refine blk_alloc ?_ _)); refine blk_put (cs := #[.int .i64 0, .int .i64 0, .slice none 0 0, .int .u64 0]) ?_ 0 _ rfl; (with_reducible repeat (first | refine blk_drewN ?_ _ | refine blk_drew ?_ | refine blk_alloc ?_ _)); exact BK286.out⟩
     have n7_ : Aside0 (Below w.heap.size w ((((w180.setCell ⟨gb286, 0, none⟩ (.int .i64 ((rd_T25 l0_2 x107_1).f0))).setCell ⟨gb286, 1, none⟩ (.int .i64 ((rd_T25 l0_2 x107_1).f1))).setCell ⟨gb286, 2, none⟩ (.slice A285_2 ((rd_T25 l0_2 x107_1).f2).length c285_2)).setCell ⟨gb286, 3, none⟩ (.int .u64 ((rd_T25 l0_2 x107_1).f3)))) := ⟨hz5 HB.out GE232.out GE233.out GE234.out GE241.out GE286.out⟩
     (try clear HO_242001)
     (try clear HO_242002)
     (try clear BK232)
     (try clear BK233)
     (try clear BK234)
     (try clear BK241)
     (try clear BK286)
     (try clear HB)
     generalize ((((w180.setCell ⟨gb286, 0, none⟩ (.int .i64 ((rd_T25 l0_2 x107_1).f0))).setCell ⟨gb286, 1, none⟩ (.int .i64 ((rd_T25 l0_2 x107_1).f1))).setCell ⟨gb286, 2, none⟩ (.slice A285_2 ((rd_T25 l0_2 x107_1).f2).length c285_2)).setCell ⟨gb286, 3, none⟩ (.int .u64 ((rd_T25 l0_2 x107_1).f3))) = w191 at n0_ n1_ n2_ n3_ n4_ n5_ n6_ n7_ ⊢
     have HO_242001 := n0_
     have HO_242002 := n1_
     have BK232 := n2_
     have BK233 := n3_
     have BK234 := n4_
     have BK241 := n5_
     have BK286 := n6_
     have HB := n7_
     clear n0_ n1_ n2_ n3_ n4_ n5_ n6_ n7_
     replace HO_242001 := am (Kd.R_drew HO_242001.out)
     replace HO_242002 := am (Kd.S_drew HO_242002.out)
     replace BK232 := am (blk_drew BK232.out)
     replace BK233 := am (blk_drew BK233.out)
     replace BK234 := am (blk_drew BK234.out)
     replace BK241 := am (blk_drew BK241.out)
     replace BK286 := am (blk_drew BK286.out)
     replace HB := am (below_drew1 HB.out)
     refine start_ (n := 8) (S := fun w' => w'.cell? ⟨gb241, 0, none⟩ = some (.int .i64 a0_0) ∧ w'.cell? ⟨gb241, 1, none⟩ = some (.slice Ao190 x242001_1.length co190) ∧ w'.cell? ⟨gb241, 2, none⟩ = some (u242002) ∧ w'.cell? ⟨gb286, 0, none⟩ = some (.int .i64 ((rd_T25 l0_2 x107_1).f0)) ∧ w'.cell? ⟨gb286, 1, none⟩ = some (.int .i64 ((rd_T25 l0_2 x107_1).f1)) ∧ w'.cell? ⟨gb286, 2, none⟩ = some (.slice A285_2 ((rd_T25 l0_2 x107_1).f2).length c285_2) ∧ w'.cell? ⟨gb286, 3, none⟩ = some (.int .u64 ((rd_T25 l0_2 x107_1).f3))) (ds := [7]) #[false, false, false, false, false, false, false, false] (by kernel_rfl) rfl rfl ⟨(blk_cell BK241.out 0).trans rfl, (blk_cell BK241.out 1).trans rfl, (blk_cell BK241.out 2).trans rfl, (blk_cell BK286.out 0).trans rfl, (blk_cell BK286.out 1).trans rfl, (blk_cell BK286.out 2).trans rfl, (blk_cell BK286.out 3).trans rfl⟩ (fun hHeld => ?_); refine with_tabW upload_Receive.tab32 upload_Receive.bits32 (fun HT_ HW_ => ?_)
     generalize w191.drew = w192 at HO_242001 HO_242002 BK232 BK233 BK234 BK241 BK286 HB hHeld ⊢
     refine pz 0 122 HT_.out ?_
     refine tz7 1 123 HT_.out HW_.out hHeld ?_
     refine tz7 2 124 HT_.out HW_.out hHeld ?_
     refine oz 3 125 HT_.out (fun K hK => ?_)
     refine goes_ Try.func42 (by kernel_rfl) rfl #[.agg #[.int .i64 ((rd_T25 l0_2 x107_1).f0), .int .i64 ((rd_T25 l0_2 x107_1).f1), .slice A285_2 ((rd_T25 l0_2 x107_1).f2).length c285_2, .int .u64 ((rd_T25 l0_2 x107_1).f3)]] (by rfl) rfl rfl lz ?_
     with_reducible refine (upload_copied.calls ((rd_T25 l0_2 x107_1).f0) ((rd_T25 l0_2 x107_1).f1) _ _ ((rd_T25 l0_2 x107_1).f2) ((rd_T25 l0_2 x107_1).f3) t290 t291 t292 t295 _ ?side1 ?side2 A178.out).mono ?_
     (case side1 => exact cz (Kd.C_below HR285_2.out HB.out))
     (case side2 => exact HC285_2.out)
     rintro e w193 ⟨v293, rfl, ho0, hb⟩
     refine ⟨_, rfl, ?_⟩
     replace HO_242002 := am (Kd.S_elder' (sz HO_242002.out) (Kd.R_base ho0) hb)
     have HO294 := am (Kd.R_lower (Kd.R_new' ho0 (Kd.R_lt (rz HO_242001.out))) (below_size (hz5 HB.out GE232.out GE233.out GE234.out GE241.out GE286.out)))
     replace HO_242001 := am (Kd.R_elder' (rz HO_242001.out) (Kd.R_base ho0) hb)
     replace BK232 := am (blk_below (bz BK232.out) hb)
     replace BK233 := am (blk_below (bz BK233.out) hb)
     replace BK234 := am (blk_below (bz BK234.out) hb)
     replace BK241 := am (blk_below (bz BK241.out) hb)
     replace BK286 := am (blk_below (bz BK286.out) hb)
     replace HB := am (below_step (hz5 HB.out GE232.out GE233.out GE234.out GE241.out GE286.out) hb)
     (try clear hb)
     (try clear hb2)
     (try clear hk)
     (try clear hi)
     (try clear ho0)
     obtain ⟨Ao195, co195, eo195⟩ := Kd.R_slice HO294.out
     (first | subst eo195 | (injection eo195 with f1_ f2_ f3_; have f4_ := f1_.symm; have f5_ := f3_.symm; clear f1_ f2_ f3_; subst f4_; subst f5_))
     refine hK.out _ _ ⟨(blk_cell BK241.out 0).trans rfl, (blk_cell BK241.out 1).trans rfl, (blk_cell BK241.out 2).trans rfl, (blk_cell BK286.out 0).trans rfl, (blk_cell BK286.out 1).trans rfl, (blk_cell BK286.out 2).trans rfl, (blk_cell BK286.out 3).trans rfl⟩ (fun hHeld => ?_)
     clear hK K
     refine norm_ (a' := ?_) ?_ ?_
     rotate_left
     ·
      show Act.put _ (some 125) _ = _
      simp only [Act.put, List.setIfInBounds_toArray, List.set_cons_zero, List.set_cons_succ, i64_w, i32_w]
      rfl
     refine oz 4 126 HT_.out (fun K hK => ?_)
     refine value_ (w1 := ?_) (v := ?_) (by rfl) rfl ?_ ?_
     rotate_left 2
     ·
      go_simp
      constructor
      ·
       rfl
      ·
       rfl
     refine hK.out _ _ ⟨(blk_cell (blk_alloc BK241.out _) 0).trans rfl, (blk_cell (blk_alloc BK241.out _) 1).trans rfl, (blk_cell (blk_alloc BK241.out _) 2).trans rfl, (blk_cell (blk_alloc BK286.out _) 0).trans rfl, (blk_cell (blk_alloc BK286.out _) 1).trans rfl, (blk_cell (blk_alloc BK286.out _) 2).trans rfl, (blk_cell (blk_alloc BK286.out _) 3).trans rfl⟩ (fun hHeld => ?_)
     clear hK K
     refine norm_ (a' := ?_) ?_ ?_
     rotate_left
     ·
      show Act.put _ (some 126) _ = _
      simp only [Act.put, List.setIfInBounds_toArray, List.set_cons_zero, List.set_cons_succ, i64_w, i32_w]
      rfl
     refine oz 5 127 HT_.out (fun K hK => ?_)
     refine Kd.S_append_step k25 (w0 := w) w.heap.size (by rfl) (.tmp 123) (.tmp 126) 30 25 (.agg #[(.int .i64 0), (.int .i64 0), (.slice none 0 0), (.int .u64 0)]) 48 rfl Try.underlying30 info25 rfl (by decide) (by omega) u242002 x242002_1 (⟨t290, t291, t292, t295⟩ : S25) [.int .i64 t290, .int .i64 t291, .slice Ao195 t292.length co195, .int .u64 t295] (fun k_ => some k_ ≠ (.slice Ao190 x242001_1.length co190 : Value).ownBlock ∧ k_ ≠ gb233 ∧ k_ ≠ gb286) (fun k_ => some k_ = (.slice Ao195 t292.length co195 : Value).ownBlock) rfl rfl ?aP (fun k_ hk_ => ((Kd.R_mono (ok' := fun k_ => ((fun k_ => some k_ ≠ (.slice Ao190 x242001_1.length co190 : Value).ownBlock ∧ k_ ≠ gb233 ∧ k_ ≠ gb286)) k_ ∧ some k_ ≠ (u242002 : Value).ownBlock) (Kd.R_types (Kd.R_types (Kd.R_apart' (HO294.out) (Kd.S_typed HO_242002.out) (by decide)) BK233.out (by decide)) BK286.out (by decide)) (fun k_ hk => ⟨⟨hk.1.1.1.2, ⟨hk.1.2, hk.2⟩⟩, hk.1.1.2⟩))).1 k_ hk_.symm) ?aF ?aO ?aB ?aS ?aL ?_
     (case aP => exact k25_mkM _ _ _ (⟨t290, t291, t292, t295⟩ : S25) (Kd.R_mono (Kd.R_tight rfl (Kd.R_mono (ok' := fun k_ => ((fun k_ => some k_ ≠ (.slice Ao190 x242001_1.length co190 : Value).ownBlock ∧ k_ ≠ gb233 ∧ k_ ≠ gb286)) k_ ∧ some k_ ≠ (u242002 : Value).ownBlock) (Kd.R_types (Kd.R_types (Kd.R_apart' (HO294.out) (Kd.S_typed HO_242002.out) (by decide)) BK233.out (by decide)) BK286.out (by decide)) (fun k_ hk => ⟨⟨hk.1.1.1.2, ⟨hk.1.2, hk.2⟩⟩, hk.1.1.2⟩))) (fun _ h_ => h_)))
     (case aB => exact (hz5 HB.out GE232.out GE233.out GE234.out GE241.out GE286.out))
     (case aF => exact (fun k_ hk => ⟨Kd.fresh' (Kd.R_lt (rz HO_242001.out)) k_ hk, Kd.freshB (g := gb233) (o := .cells #[.int .i64 a1_0, .int .i64 a1_1, .slice A1_2 l1_2.length c1_2, .int .u64 a1_3] 25 (0, 0)) (bz BK233.out) k_ hk, Kd.freshB (g := gb286) (o := .cells #[.int .i64 ((rd_T25 l0_2 x107_1).f0), .int .i64 ((rd_T25 l0_2 x107_1).f1), .slice A285_2 ((rd_T25 l0_2 x107_1).f2).length c285_2, .int .u64 ((rd_T25 l0_2 x107_1).f3)] 25 (0, 0)) (bz BK286.out) k_ hk⟩))
     (case aO => exact (sz (Kd.S_mono HO_242002.out (fun k_ hk => ⟨⟨hk.1.1, ⟨hk.1.2.1, hk.1.2.2⟩⟩, fun e_ => hk.2 e_⟩))))
     (case aS => exact (below_size (hz5 HB.out GE232.out GE233.out GE234.out GE241.out GE286.out)))
     (case aL => have := LMc179.out; omega)
     intro v297 w194 ho hb hg hat
     rw [← Ny296.out] at ho
     replace HO_242001 := am (Kd.R_over' (rz HO_242001.out) (Kd.S_typed (sz HO_242002.out)) (by decide) hg)
     replace BK232 := am (blk_grown (bz BK232.out) hg (Kd.S_ne HO_242002.out BK232.out (by decide)))
     replace BK233 := am (blk_grown (bz BK233.out) hg (Kd.S_away HO_242002.out (fun _ hk => hk.1.2.1)))
     replace BK234 := am (blk_grown (bz BK234.out) hg (Kd.S_ne HO_242002.out BK234.out (by decide)))
     replace BK241 := am (blk_grown (bz BK241.out) hg (Kd.S_ne HO_242002.out BK241.out (by decide)))
     replace BK286 := am (blk_grown (bz BK286.out) hg (Kd.S_away HO_242002.out (fun _ hk => hk.1.2.2)))
     replace HB := am (hb)
     have HO298 := am (ho)
     clear HO_242002 HO294
     clear ho hb hg hat
     obtain ⟨Ao196, co196, eo196⟩ := Kd.S_slice HO298.out
     (first | subst eo196 | (injection eo196 with f1_ f2_ f3_; have f4_ := f1_.symm; have f5_ := f3_.symm; clear f1_ f2_ f3_; subst f4_; subst f5_))
     refine hK.out _ _ ⟨(blk_cell BK241.out 0).trans rfl, (blk_cell BK241.out 1).trans rfl, (blk_cell BK241.out 2).trans rfl, (blk_cell BK286.out 0).trans rfl, (blk_cell BK286.out 1).trans rfl, (blk_cell BK286.out 2).trans rfl, (blk_cell BK286.out 3).trans rfl⟩ (fun hHeld => ?_)
     clear hK K
     refine norm_ (a' := ?_) ?_ ?_
     rotate_left
     ·
      show Act.put _ (some 127) _ = _
      simp only [Act.put, List.setIfInBounds_toArray, List.set_cons_zero, List.set_cons_succ, i64_w, i32_w]
      rfl
     refine pz 6 128 HT_.out ?_
     refine last_ (i := 7) (N := none) #[true, true, true, true, true, true, true, true] rfl rfl (one_of HT_.out (by kernel_rfl)) (by decide) (fun K hK => ?_)
     have hs197 : w194.cell? ⟨gb241, 2, none⟩ = some (u242002) := (blk_cell BK241.out 2).trans rfl
     have hfs197 := blk_frozen BK241.out 2
     have hns197_0 := NB232_241.out
     have hns197_1 := NB233_241.out
     have hns197_2 := NB234_241.out
     have hns197_4 := NB286_241.out
     have hms197_0 := NB241_232.out
     have hms197_1 := NB241_233.out
     have hms197_2 := NB241_234.out
     have hms197_4 := NB241_286.out
     refine skip_ (w1 := ?_) (by rfl) rfl ?_ ?_
     rotate_left
     ·
      go_simp
      rfl
     refine hK.out _ _ ?_
     clear hK K
     refine done_ (done_of HT_.out (by kernel_rfl)) ?_
     try go_wp2
     go_roundg k1
     case measure => have := HK1.out; omega
     case rel => exact ⟨(wrap64 (x107_1 + 1)), (x242001_1), (y296), (.slice Ao190 x242001_1.length co190), (.slice Ao196 y296.length co196), (by first | rfl | (simp; done) | (simp [*]; done)), H', ⟨by have := HK1.out; omega⟩, ⟨by (with_reducible repeat (first | apply Kd.R_alloc | apply Kd.R_drewN | apply Kd.R_drew)); exact Kd.R_mono (Kd.R_far (p := ⟨gb241, 2, none⟩) (Kd.R_types HO_242001.out BK241.out (by decide)) (fun _ hk => hk.2) (.slice Ao196 y296.length co196)) (fun _ hk => trivial)⟩, ⟨by (with_reducible repeat (first | apply Kd.S_alloc | apply Kd.S_drewN | apply Kd.S_drew)); exact Kd.S_mono (Kd.S_far (p := ⟨gb241, 2, none⟩) (Kd.S_types HO298.out BK241.out (by decide)) (fun _ hk => hk.2) (.slice Ao196 y296.length co196)) (fun _ hk => ⟨hk.1.1, hk.1.2.1⟩)⟩, ⟨bf1 NB232_241.out BK232.out⟩, ⟨bf1 NB233_241.out BK233.out⟩, ⟨bf1 NB234_241.out BK234.out⟩, ⟨by (with_reducible repeat (first | refine blk_drewN ?_ _ | refine blk_drew ?_ | refine blk_alloc ?_ _)); refine blk_put (cs := #[.int .i64 a0_0, .slice Ao190 x242001_1.length co190, u242002]) ?_ 2 _ rfl; (with_reducible repeat (first | refine blk_drewN ?_ _ | refine blk_drew ?_ | refine blk_alloc ?_ _)); exact BK241.out⟩, ⟨hz5 HB.out GE232.out GE233.out GE234.out GE241.out GE286.out⟩⟩
   ·
    rw [if_neg c157] at H
    have c157b0 : decide (x107_1 < (l0_2.length : Int)) = false := decide_eq_false c157
    clear c157
    simp only [Option.some.injEq, Prod.mk.injEq] at H
    obtain ⟨rfl, rfl, rfl, rfl⟩ := H
    have hnb198 := NB241_232.out
    have hnc198 := NB232_241.out
    have hnb199 := NB241_233.out
    have hnc199 := NB233_241.out
    have hnb200 := NB241_234.out
    have hnc200 := NB234_241.out
    have hcz201_0 : wr.cell? ⟨gb241, 0, none⟩ = some (.int .i64 a0_0) := (blk_cell BK241.out 0).trans rfl
    have hcz201_1 : wr.cell? ⟨gb241, 1, none⟩ = some (u242001) := (blk_cell BK241.out 1).trans rfl
    have hcz201_2 : wr.cell? ⟨gb241, 2, none⟩ = some (u242002) := (blk_cell BK241.out 2).trans rfl
    have hfz201_0 := blk_frozen BK241.out 0
    have hfz201_1 := blk_frozen BK241.out 1
    have hfz201_2 := blk_frozen BK241.out 2
    have hnb202 := NB234_232.out
    have hnc202 := NB232_234.out
    have hnb203 := NB234_233.out
    have hnc203 := NB233_234.out
    have hcz204_0 : wr.cell? ⟨gb234, 0, none⟩ = some (.int .i64 0) := (blk_cell BK234.out 0).trans rfl
    have hcz204_1 : wr.cell? ⟨gb234, 1, none⟩ = some (.slice none 0 0) := (blk_cell BK234.out 1).trans rfl
    have hcz204_2 : wr.cell? ⟨gb234, 2, none⟩ = some (.slice none 0 0) := (blk_cell BK234.out 2).trans rfl
    have hfz204_0 := blk_frozen BK234.out 0
    have hfz204_1 := blk_frozen BK234.out 1
    have hfz204_2 := blk_frozen BK234.out 2
    obtain ⟨Ao205, co205, eo205⟩ := Kd.R_slice HO_242001.out
    subst eo205
    obtain ⟨Ao206, co206, eo206⟩ := Kd.S_slice HO_242002.out
    subst eo206
    go_wp2
    refine bodyPost_ret (results_ct rfl _ _ gb234 34 #[.int .i64 a0_0, .slice Ao205 x242001_1.length co205, .slice Ao206 x242002_1.length co206] (0, 0) _ rfl (by (with_reducible repeat (first | refine blk_drewN ?_ _ | refine blk_drew ?_ | refine blk_alloc ?_ _)); refine blk_put (cs := #[.int .i64 a0_0, .slice Ao205 x242001_1.length co205, .slice none 0 0]) ?_ 2 _ rfl; (with_reducible repeat (first | refine blk_drewN ?_ _ | refine blk_drew ?_ | refine blk_alloc ?_ _)); refine blk_put (cs := #[.int .i64 a0_0, .slice none 0 0, .slice none 0 0]) ?_ 1 _ rfl; (with_reducible repeat (first | refine blk_drewN ?_ _ | refine blk_drew ?_ | refine blk_alloc ?_ _)); refine blk_put (cs := #[.int .i64 0, .slice none 0 0, .slice none 0 0]) ?_ 0 _ rfl; (with_reducible repeat (first | refine blk_drewN ?_ _ | refine blk_drew ?_ | refine blk_alloc ?_ _)); exact BK234.out) Try.underlying34 rfl (by kernel_rfl)) rfl ?_
    exact ⟨_, _, by first | rfl | (simp [errW_none, errW_some] <;> rfl) | (simp [*, errW_none, errW_some] <;> rfl), by (with_reducible repeat (first | apply Kd.R_alloc | apply Kd.R_drewN | apply Kd.R_drew)); exact Kd.R_mono (rfg3 HO_242001.out BK234.out) (fun _ hk => trivial), by (with_reducible repeat (first | apply Kd.S_alloc | apply Kd.S_drewN | apply Kd.S_drew)); exact Kd.S_mono (sfg3 HO_242002.out BK234.out) (fun _ hk => hk.1.1), hz4 HB.out GE232.out GE233.out GE234.out GE241.out⟩

set_option maxHeartbeats 8000000 in
set_option maxRecDepth 100000 in
theorem upload_Receive.calls (k : Nat) (a0_0 : Int) (A0_1 : Option Addr) (c0_1 : Nat) (l0_1 : List Int) (A0_2 : Option Addr) (c0_2 : Nat) (l0_2 : List (S25)) (a1_0 : Int) (a1_1 : Int) (A1_2 : Option Addr) (c1_2 : Nat) (l1_2 : List Int) (a1_3 : Int) (r1 : Int) (r2 : List Int) (r3 : List (S25)) (r4 : Int) (w : World) (hr0_1 : Kd.C (Kd.int .u8) w A0_1 l0_1.length l0_1) (hc0_1 : l0_1.length ≤ c0_1) (hr0_2 : Kd.C k25 w A0_2 l0_2.length l0_2) (hc0_2 : l0_2.length ≤ c0_2) (hr1_2 : Kd.C (Kd.int .u8) w A1_2 l1_2.length l1_2) (hc1_2 : l1_2.length ≤ c1_2) (h : upload_Receive.f k a0_0 l0_1 l0_2 a1_0 a1_1 l1_2 a1_3 = some (r1, r2, r3, r4)) :
  Calls Try.prog 20 #[.agg #[.int .i64 a0_0, .slice A0_1 l0_1.length c0_1, .slice A0_2 l0_2.length c0_2], .agg #[.int .i64 a1_0, .int .i64 a1_1, .slice A1_2 l1_2.length c1_2, .int .u64 a1_3]] w fun e w' => ∃ v1_ v2_ : Value, e = .returned (.tuple #[.agg #[.int .i64 r1, v1_, v2_], .int .i64 r4]) ∧ Kd.R (Kd.int .u8) 5 w' w.heap.size (fun _ => True) v1_ r2 ∧ Kd.S k25 25 w' w.heap.size (fun k_ => some k_ ≠ (v1_ : Value).ownBlock) v2_ r3 ∧ Below w.heap.size w w' := by
 have hu34 := Try.underlying34
 have hu25 := Try.underlying25
 have HR0_1 := am hr0_1
 have HC0_1 := am hc0_1
 clear hr0_1 hc0_1
 have HR0_2 := am hr0_2
 have HC0_2 := am hc0_2
 clear hr0_2 hc0_2
 have HR1_2 := am hr1_2
 have HC1_2 := am hc1_2
 clear hr1_2 hc1_2
 have HB := am (Below.refl w.heap.size w)
 have H : ((upload_valid.f k a0_0 l0_1 l0_2).bind fun t235 => (if t235 = true then ((upload_check.f k a1_0 a1_1 l1_2 a1_3).bind fun t236 => (if t236 = 0 then (if a1_0 = a0_0 then ((upload_conflict.f k a0_0 l0_1 l0_2 a1_0 a1_1 l1_2 a1_3).bind fun t237 => (if t237 = true then (none) else ((bytes_Clone.f l0_1).bind fun t238 => (if a1_1 > (l0_1.length : Int) then ((upload_known_any.f k l0_2 a1_0 a1_1 l1_2 a1_3).bind fun t242 => (if t242 = true then (upload_Receive.j0 k t242 false a0_0 l0_1 l0_2 a1_0 a1_1 l1_2 a1_3 a0_0 t238) else (upload_Receive.j0 k t242 (decide ((l0_2.length : Int) ≥ 1024)) a0_0 l0_1 l0_2 a1_0 a1_1 l1_2 a1_3 a0_0 t238))) else ((upload_extended.f t238 a1_0 a1_1 l1_2 a1_3).bind fun t282 => (upload_Receive.l1 k l0_2 (l0_2.length : Int) 0 a0_0 t282 ([] : List (S25)))))))) else (some (0, ([] : List Int), ([] : List (S25)), 6))) else (some (0, ([] : List Int), ([] : List (S25)), t236)))) else (none))) = some (r1, r2, r3, r4) := h
 clear h
 replace H := Option.bind_eq_some_iff.mp H
 obtain ⟨t235, A30, H⟩ := H
 replace H : (if t235 = true then ((upload_check.f k a1_0 a1_1 l1_2 a1_3).bind fun t236 => (if t236 = 0 then (if a1_0 = a0_0 then ((upload_conflict.f k a0_0 l0_1 l0_2 a1_0 a1_1 l1_2 a1_3).bind fun t237 => (if t237 = true then (none) else ((bytes_Clone.f l0_1).bind fun t238 => (if a1_1 > (l0_1.length : Int) then ((upload_known_any.f k l0_2 a1_0 a1_1 l1_2 a1_3).bind fun t242 => (if t242 = true then (upload_Receive.j0 k t242 false a0_0 l0_1 l0_2 a1_0 a1_1 l1_2 a1_3 a0_0 t238) else (upload_Receive.j0 k t242 (decide ((l0_2.length : Int) ≥ 1024)) a0_0 l0_1 l0_2 a1_0 a1_1 l1_2 a1_3 a0_0 t238))) else ((upload_extended.f t238 a1_0 a1_1 l1_2 a1_3).bind fun t282 => (upload_Receive.l1 k l0_2 (l0_2.length : Int) 0 a0_0 t282 ([] : List (S25)))))))) else (some (0, ([] : List Int), ([] : List (S25)), 6))) else (some (0, ([] : List Int), ([] : List (S25)), t236)))) else (none)) = some (r1, r2, r3, r4) := H
 have A3 := am A30
 clear A30
 by_cases c4 : t235 = true
 ·
  subst c4
  have H1 : ((upload_check.f k a1_0 a1_1 l1_2 a1_3).bind fun t236 => (if t236 = 0 then (if a1_0 = a0_0 then ((upload_conflict.f k a0_0 l0_1 l0_2 a1_0 a1_1 l1_2 a1_3).bind fun t237 => (if t237 = true then (none) else ((bytes_Clone.f l0_1).bind fun t238 => (if a1_1 > (l0_1.length : Int) then ((upload_known_any.f k l0_2 a1_0 a1_1 l1_2 a1_3).bind fun t242 => (if t242 = true then (upload_Receive.j0 k t242 false a0_0 l0_1 l0_2 a1_0 a1_1 l1_2 a1_3 a0_0 t238) else (upload_Receive.j0 k t242 (decide ((l0_2.length : Int) ≥ 1024)) a0_0 l0_1 l0_2 a1_0 a1_1 l1_2 a1_3 a0_0 t238))) else ((upload_extended.f t238 a1_0 a1_1 l1_2 a1_3).bind fun t282 => (upload_Receive.l1 k l0_2 (l0_2.length : Int) 0 a0_0 t282 ([] : List (S25)))))))) else (some (0, ([] : List Int), ([] : List (S25)), 6))) else (some (0, ([] : List Int), ([] : List (S25)), t236)))) = some (r1, r2, r3, r4) := by rw [if_pos rfl] at H; exact H
  clear H
  have H := H1
  clear H1
  replace H := Option.bind_eq_some_iff.mp H
  obtain ⟨t236, A50, H⟩ := H
  replace H : (if t236 = 0 then (if a1_0 = a0_0 then ((upload_conflict.f k a0_0 l0_1 l0_2 a1_0 a1_1 l1_2 a1_3).bind fun t237 => (if t237 = true then (none) else ((bytes_Clone.f l0_1).bind fun t238 => (if a1_1 > (l0_1.length : Int) then ((upload_known_any.f k l0_2 a1_0 a1_1 l1_2 a1_3).bind fun t242 => (if t242 = true then (upload_Receive.j0 k t242 false a0_0 l0_1 l0_2 a1_0 a1_1 l1_2 a1_3 a0_0 t238) else (upload_Receive.j0 k t242 (decide ((l0_2.length : Int) ≥ 1024)) a0_0 l0_1 l0_2 a1_0 a1_1 l1_2 a1_3 a0_0 t238))) else ((upload_extended.f t238 a1_0 a1_1 l1_2 a1_3).bind fun t282 => (upload_Receive.l1 k l0_2 (l0_2.length : Int) 0 a0_0 t282 ([] : List (S25)))))))) else (some (0, ([] : List Int), ([] : List (S25)), 6))) else (some (0, ([] : List Int), ([] : List (S25)), t236))) = some (r1, r2, r3, r4) := H
  have A5 := am A50
  clear A50
  by_cases c6 : t236 = 0
  ·
   rw [if_pos c6] at H
   have c6b0 : (t236 == 0) = true := beq_iff_eq.mpr c6
   have c6b1 : (t236 != 0) = false := bne_eq_false_iff_eq.mpr c6
   clear c6
   by_cases c7 : a1_0 = a0_0
   ·
    rw [if_pos c7] at H
    have c7b0 : (a1_0 == a0_0) = true := beq_iff_eq.mpr c7
    have c7b1 : (a1_0 != a0_0) = false := bne_eq_false_iff_eq.mpr c7
    clear c7
    replace H := Option.bind_eq_some_iff.mp H
    obtain ⟨t237, A80, H⟩ := H
    replace H : (if t237 = true then (none) else ((bytes_Clone.f l0_1).bind fun t238 => (if a1_1 > (l0_1.length : Int) then ((upload_known_any.f k l0_2 a1_0 a1_1 l1_2 a1_3).bind fun t242 => (if t242 = true then (upload_Receive.j0 k t242 false a0_0 l0_1 l0_2 a1_0 a1_1 l1_2 a1_3 a0_0 t238) else (upload_Receive.j0 k t242 (decide ((l0_2.length : Int) ≥ 1024)) a0_0 l0_1 l0_2 a1_0 a1_1 l1_2 a1_3 a0_0 t238))) else ((upload_extended.f t238 a1_0 a1_1 l1_2 a1_3).bind fun t282 => (upload_Receive.l1 k l0_2 (l0_2.length : Int) 0 a0_0 t282 ([] : List (S25))))))) = some (r1, r2, r3, r4) := H
    have A8 := am A80
    clear A80
    by_cases c9 : t237 = true
    ·
     subst c9
     have H1 : (none) = some (r1, r2, r3, r4) := by rw [if_pos rfl] at H; exact H
     clear H
     have H := H1
     clear H1
     exact absurd H (by simp)
    ·
     replace c9 := Bool.eq_false_iff.mpr c9
     subst c9
     have H1 : ((bytes_Clone.f l0_1).bind fun t238 => (if a1_1 > (l0_1.length : Int) then ((upload_known_any.f k l0_2 a1_0 a1_1 l1_2 a1_3).bind fun t242 => (if t242 = true then (upload_Receive.j0 k t242 false a0_0 l0_1 l0_2 a1_0 a1_1 l1_2 a1_3 a0_0 t238) else (upload_Receive.j0 k t242 (decide ((l0_2.length : Int) ≥ 1024)) a0_0 l0_1 l0_2 a1_0 a1_1 l1_2 a1_3 a0_0 t238))) else ((upload_extended.f t238 a1_0 a1_1 l1_2 a1_3).bind fun t282 => (upload_Receive.l1 k l0_2 (l0_2.length : Int) 0 a0_0 t282 ([] : List (S25)))))) = some (r1, r2, r3, r4) := by rw [if_neg (show ¬ (false = true) by decide)] at H; exact H
     clear H
     have H := H1
     clear H1
     replace H := Option.bind_eq_some_iff.mp H
     obtain ⟨t238, A100, H⟩ := H
     replace H : (if a1_1 > (l0_1.length : Int) then ((upload_known_any.f k l0_2 a1_0 a1_1 l1_2 a1_3).bind fun t242 => (if t242 = true then (upload_Receive.j0 k t242 false a0_0 l0_1 l0_2 a1_0 a1_1 l1_2 a1_3 a0_0 t238) else (upload_Receive.j0 k t242 (decide ((l0_2.length : Int) ≥ 1024)) a0_0 l0_1 l0_2 a1_0 a1_1 l1_2 a1_3 a0_0 t238))) else ((upload_extended.f t238 a1_0 a1_1 l1_2 a1_3).bind fun t282 => (upload_Receive.l1 k l0_2 (l0_2.length : Int) 0 a0_0 t282 ([] : List (S25))))) = some (r1, r2, r3, r4) := H
     have A10 := am A100
     clear A100
     by_cases c11 : a1_1 > (l0_1.length : Int)
     ·
      exact upload_Receive.callsA k a0_0 A0_1 c0_1 l0_1 A0_2 c0_2 l0_2 a1_0 a1_1 A1_2 c1_2 l1_2 a1_3 r1 r2 r3 r4 w t236 t238 HR0_1 HC0_1 HR0_2 HC0_2 HR1_2 HC1_2 HB A3 A5 A8 A10 c6b0 c6b1 c7b0 c7b1 H c11
     ·
      exact upload_Receive.callsB k a0_0 A0_1 c0_1 l0_1 A0_2 c0_2 l0_2 a1_0 a1_1 A1_2 c1_2 l1_2 a1_3 r1 r2 r3 r4 w t236 t238 HR0_1 HC0_1 HR0_2 HC0_2 HR1_2 HC1_2 HB A3 A5 A8 A10 c6b0 c6b1 c7b0 c7b1 H c11
   ·
    rw [if_neg c7] at H
    have c7b0 : (a1_0 == a0_0) = false := beq_eq_false_iff_ne.mpr c7
    have c7b1 : (a1_0 != a0_0) = true := bne_iff_ne.mpr c7
    simp only [Option.some.injEq, Prod.mk.injEq] at H
    obtain ⟨rfl, rfl, rfl, rfl⟩ := H
    go_enter Try.func20, Try.ntmps20
    go_wp2_with (first | ((with_reducible refine gate_dst (N := 2) rfl ?_); (try (refine gate_guard (by rfl) ?_; dsimp only)); refine box_event ?hg (N := 2) ?hd (cs := #[.int .i64 a0_0, .slice A0_1 l0_1.length c0_1, .slice A0_2 l0_2.length c0_2]) (t := 34) ?hr ?_; (case hd => rfl); (case hg => rfl); (case hr => exact gz); intro gb232 hg w207 hbox hb; have BK232 := am (hbox); have GW232 := am ((bs hg (hz HB.out) : w.heap.size ≤ gb232)); have GE232 := am ((bs hg (hz HB.out) : w.heap.size ≤ gb232)); replace HB := am (below_step (hz HB.out) hb); clear hb hbox hg) | ((with_reducible refine gate_dst (N := 3) rfl ?_); (try (refine gate_guard (by rfl) ?_; dsimp only)); refine box_event ?hg (N := 3) ?hd (cs := #[.int .i64 a1_0, .int .i64 a1_1, .slice A1_2 l1_2.length c1_2, .int .u64 a1_3]) (t := 25) ?hr ?_; (case hd => rfl); (case hg => rfl); (case hr => exact gz); intro gb233 hg w208 hbox hb; have BK233 := am (hbox); have GW233 := am ((bs hg (hz1 HB.out GE232.out) : w.heap.size ≤ gb233)); have GE233 := am ((bs hg (hz1 HB.out GE232.out) : w.heap.size ≤ gb233)); replace HB := am (below_step (hz1 HB.out GE232.out) hb); have NB232_233 := am ((nl hg (bz BK232.out) : gb232 ≠ gb233)); have NB233_232 := am ((ng hg (bz BK232.out) : gb233 ≠ gb232)); replace BK232 := am (blk_below (bz BK232.out) hb); clear hb hbox hg) | ((with_reducible refine gate_dst (N := 4) rfl ?_); (try (refine gate_guard (by rfl) ?_; dsimp only)); refine box_event ?hg (N := 4) ?hd (cs := #[.int .i64 0, .slice none 0 0, .slice none 0 0]) (t := 34) ?hr ?_; (case hd => rfl); (case hg => rfl); (case hr => exact gz); intro gb234 hg w209 hbox hb; have BK234 := am (hbox); have GW234 := am ((bs hg (hz2 HB.out GE232.out GE233.out) : w.heap.size ≤ gb234)); have GE234 := am ((bs hg (hz2 HB.out GE232.out GE233.out) : w.heap.size ≤ gb234)); replace HB := am (below_step (hz2 HB.out GE232.out GE233.out) hb); have NB232_234 := am ((nl hg (bz BK232.out) : gb232 ≠ gb234)); have NB234_232 := am ((ng hg (bz BK232.out) : gb234 ≠ gb232)); replace BK232 := am (blk_below (bz BK232.out) hb); have NB233_234 := am ((nl hg (bz BK233.out) : gb233 ≠ gb234)); have NB234_233 := am ((ng hg (bz BK233.out) : gb234 ≠ gb233)); replace BK233 := am (blk_below (bz BK233.out) hb); clear hb hbox hg; have hnb210 := NB232_233.out; have hnc210 := NB233_232.out; have hnb211 := NB232_234.out; have hnc211 := NB234_232.out; obtain ⟨hcz212_0, hcz212_1, hcz212_2⟩ := cs3 BK232.out; obtain ⟨hfz212_0, hfz212_1, hfz212_2⟩ := fs3 BK232.out) | ((with_reducible refine gate_callee (f := 36) rfl ?_); refine goesL_ (some 15) rfl rfl Try.func36 (by kernel_rfl) rfl #[.agg #[.int .i64 a0_0, .slice A0_1 l0_1.length c0_1, .slice A0_2 l0_2.length c0_2]] rfl lz ?_; (with_reducible refine (upload_valid.calls k a0_0 _ _ l0_1 _ _ l0_2 true _ ?side1 ?side2 ?side3 ?side4 A3.out).mono ?_); (case side1 => exact cz (Kd.C_below HR0_1.out HB.out)); (case side2 => exact HC0_1.out); (case side3 => exact cz (Kd.C_below HR0_2.out HB.out)); (case side4 => exact HC0_2.out); rintro e w213 ⟨rfl, hb⟩; refine ⟨_, rfl, ?_⟩; replace BK232 := am (blk_below (bz BK232.out) hb); replace BK233 := am (blk_below (bz BK233.out) hb); replace BK234 := am (blk_below (bz BK234.out) hb); replace HB := am (below_step (hz3 HB.out GE232.out GE233.out GE234.out) hb); (try clear hb); (try clear hb2); (try clear hk); (try clear hi); have hnb214 := NB233_234.out; have hnc214 := NB234_233.out; obtain ⟨hcz215_0, hcz215_1, hcz215_2, hcz215_3⟩ := cs4 BK233.out; obtain ⟨hfz215_0, hfz215_1, hfz215_2, hfz215_3⟩ := fs4 BK233.out) | ((with_reducible refine gate_callee (f := 37) rfl ?_); refine goesL_ (some 19) rfl rfl Try.func37 (by kernel_rfl) rfl #[.agg #[.int .i64 a1_0, .int .i64 a1_1, .slice A1_2 l1_2.length c1_2, .int .u64 a1_3]] rfl lz ?_; (with_reducible refine (upload_check.calls k a1_0 a1_1 _ _ l1_2 a1_3 t236 _ ?side1 ?side2 A5.out).mono ?_); (case side1 => exact cz (Kd.C_below HR1_2.out HB.out)); (case side2 => exact HC1_2.out); rintro e w216 ⟨rfl, hb⟩; refine ⟨_, rfl, ?_⟩; replace BK232 := am (blk_below (bz BK232.out) hb); replace BK233 := am (blk_below (bz BK233.out) hb); replace BK234 := am (blk_below (bz BK234.out) hb); replace HB := am (below_step (hz3 HB.out GE232.out GE233.out GE234.out) hb); (try clear hb); (try clear hb2); (try clear hk); (try clear hi); obtain ⟨hcz217_0, hcz217_1, hcz217_2, hcz217_3⟩ := cs4 BK233.out; obtain ⟨hfz217_0, hfz217_1, hfz217_2, hfz217_3⟩ := fs4 BK233.out; obtain ⟨hcz218_0, hcz218_1, hcz218_2⟩ := cs3 BK232.out; obtain ⟨hfz218_0, hfz218_1, hfz218_2⟩ := fs3 BK232.out; obtain ⟨hcz219_0, hcz219_1, hcz219_2⟩ := cs3 BK234.out; obtain ⟨hfz219_0, hfz219_1, hfz219_2⟩ := fs3 BK234.out))
    refine bodyPost_ret (results_ct rfl _ _ gb234 34 #[.int .i64 0, .slice none 0 0, .slice none 0 0] (0, 0) _ rfl (by (with_reducible repeat (first | refine blk_drewN ?_ _ | refine blk_drew ?_ | refine blk_alloc ?_ _)); refine blk_put (cs := #[.int .i64 0, .slice none 0 0, .slice none 0 0]) ?_ 2 _ rfl; (with_reducible repeat (first | refine blk_drewN ?_ _ | refine blk_drew ?_ | refine blk_alloc ?_ _)); refine blk_put (cs := #[.int .i64 0, .slice none 0 0, .slice none 0 0]) ?_ 1 _ rfl; (with_reducible repeat (first | refine blk_drewN ?_ _ | refine blk_drew ?_ | refine blk_alloc ?_ _)); refine blk_put (cs := #[.int .i64 0, .slice none 0 0, .slice none 0 0]) ?_ 0 _ rfl; (with_reducible repeat (first | refine blk_drewN ?_ _ | refine blk_drew ?_ | refine blk_alloc ?_ _)); exact BK234.out) Try.underlying34 rfl (by kernel_rfl)) rfl ?_
    exact ⟨_, _, by first | rfl | (simp [errW_none, errW_some] <;> rfl) | (simp [*, errW_none, errW_some] <;> rfl), by first | exact Kd.R_nil _ _ _ _ _ | exact Kd.N_nil _ _ _ _ _ | exact Kd.V_nil _ _ _ _ _ | exact Kd.Q_nil _ _ _ _ _ | exact Kd.S_nil _ _ _ _ _, by first | exact Kd.S_nil _ _ _ _ _ | exact Kd.N_nil _ _ _ _ _ | exact Kd.V_nil _ _ _ _ _ | exact Kd.Q_nil _ _ _ _ _ | exact Kd.R_nil _ _ _ _ _, hz3 HB.out GE232.out GE233.out GE234.out⟩
  ·
   rw [if_neg c6] at H
   have c6b0 : (t236 == 0) = false := beq_eq_false_iff_ne.mpr c6
   have c6b1 : (t236 != 0) = true := bne_iff_ne.mpr c6
   simp only [Option.some.injEq, Prod.mk.injEq] at H
   obtain ⟨rfl, rfl, rfl, rfl⟩ := H
   go_enter Try.func20, Try.ntmps20
   go_wp2_with (first | ((with_reducible refine gate_dst (N := 2) rfl ?_); (try (refine gate_guard (by rfl) ?_; dsimp only)); refine box_event ?hg (N := 2) ?hd (cs := #[.int .i64 a0_0, .slice A0_1 l0_1.length c0_1, .slice A0_2 l0_2.length c0_2]) (t := 34) ?hr ?_; (case hd => rfl); (case hg => rfl); (case hr => exact gz); intro gb232 hg w220 hbox hb; have BK232 := am (hbox); have GW232 := am ((bs hg (hz HB.out) : w.heap.size ≤ gb232)); have GE232 := am ((bs hg (hz HB.out) : w.heap.size ≤ gb232)); replace HB := am (below_step (hz HB.out) hb); clear hb hbox hg) | ((with_reducible refine gate_dst (N := 3) rfl ?_); (try (refine gate_guard (by rfl) ?_; dsimp only)); refine box_event ?hg (N := 3) ?hd (cs := #[.int .i64 a1_0, .int .i64 a1_1, .slice A1_2 l1_2.length c1_2, .int .u64 a1_3]) (t := 25) ?hr ?_; (case hd => rfl); (case hg => rfl); (case hr => exact gz); intro gb233 hg w221 hbox hb; have BK233 := am (hbox); have GW233 := am ((bs hg (hz1 HB.out GE232.out) : w.heap.size ≤ gb233)); have GE233 := am ((bs hg (hz1 HB.out GE232.out) : w.heap.size ≤ gb233)); replace HB := am (below_step (hz1 HB.out GE232.out) hb); have NB232_233 := am ((nl hg (bz BK232.out) : gb232 ≠ gb233)); have NB233_232 := am ((ng hg (bz BK232.out) : gb233 ≠ gb232)); replace BK232 := am (blk_below (bz BK232.out) hb); clear hb hbox hg) | ((with_reducible refine gate_dst (N := 4) rfl ?_); (try (refine gate_guard (by rfl) ?_; dsimp only)); refine box_event ?hg (N := 4) ?hd (cs := #[.int .i64 0, .slice none 0 0, .slice none 0 0]) (t := 34) ?hr ?_; (case hd => rfl); (case hg => rfl); (case hr => exact gz); intro gb234 hg w222 hbox hb; have BK234 := am (hbox); have GW234 := am ((bs hg (hz2 HB.out GE232.out GE233.out) : w.heap.size ≤ gb234)); have GE234 := am ((bs hg (hz2 HB.out GE232.out GE233.out) : w.heap.size ≤ gb234)); replace HB := am (below_step (hz2 HB.out GE232.out GE233.out) hb); have NB232_234 := am ((nl hg (bz BK232.out) : gb232 ≠ gb234)); have NB234_232 := am ((ng hg (bz BK232.out) : gb234 ≠ gb232)); replace BK232 := am (blk_below (bz BK232.out) hb); have NB233_234 := am ((nl hg (bz BK233.out) : gb233 ≠ gb234)); have NB234_233 := am ((ng hg (bz BK233.out) : gb234 ≠ gb233)); replace BK233 := am (blk_below (bz BK233.out) hb); clear hb hbox hg; have hnb223 := NB232_233.out; have hnc223 := NB233_232.out; have hnb224 := NB232_234.out; have hnc224 := NB234_232.out; obtain ⟨hcz225_0, hcz225_1, hcz225_2⟩ := cs3 BK232.out; obtain ⟨hfz225_0, hfz225_1, hfz225_2⟩ := fs3 BK232.out) | ((with_reducible refine gate_callee (f := 36) rfl ?_); refine goesL_ (some 15) rfl rfl Try.func36 (by kernel_rfl) rfl #[.agg #[.int .i64 a0_0, .slice A0_1 l0_1.length c0_1, .slice A0_2 l0_2.length c0_2]] rfl lz ?_; (with_reducible refine (upload_valid.calls k a0_0 _ _ l0_1 _ _ l0_2 true _ ?side1 ?side2 ?side3 ?side4 A3.out).mono ?_); (case side1 => exact cz (Kd.C_below HR0_1.out HB.out)); (case side2 => exact HC0_1.out); (case side3 => exact cz (Kd.C_below HR0_2.out HB.out)); (case side4 => exact HC0_2.out); rintro e w226 ⟨rfl, hb⟩; refine ⟨_, rfl, ?_⟩; replace BK232 := am (blk_below (bz BK232.out) hb); replace BK233 := am (blk_below (bz BK233.out) hb); replace BK234 := am (blk_below (bz BK234.out) hb); replace HB := am (below_step (hz3 HB.out GE232.out GE233.out GE234.out) hb); (try clear hb); (try clear hb2); (try clear hk); (try clear hi); have hnb227 := NB233_234.out; have hnc227 := NB234_233.out; obtain ⟨hcz228_0, hcz228_1, hcz228_2, hcz228_3⟩ := cs4 BK233.out; obtain ⟨hfz228_0, hfz228_1, hfz228_2, hfz228_3⟩ := fs4 BK233.out) | ((with_reducible refine gate_callee (f := 37) rfl ?_); refine goesL_ (some 19) rfl rfl Try.func37 (by kernel_rfl) rfl #[.agg #[.int .i64 a1_0, .int .i64 a1_1, .slice A1_2 l1_2.length c1_2, .int .u64 a1_3]] rfl lz ?_; (with_reducible refine (upload_check.calls k a1_0 a1_1 _ _ l1_2 a1_3 t236 _ ?side1 ?side2 A5.out).mono ?_); (case side1 => exact cz (Kd.C_below HR1_2.out HB.out)); (case side2 => exact HC1_2.out); rintro e w229 ⟨rfl, hb⟩; refine ⟨_, rfl, ?_⟩; replace BK232 := am (blk_below (bz BK232.out) hb); replace BK233 := am (blk_below (bz BK233.out) hb); replace BK234 := am (blk_below (bz BK234.out) hb); replace HB := am (below_step (hz3 HB.out GE232.out GE233.out GE234.out) hb); (try clear hb); (try clear hb2); (try clear hk); (try clear hi); obtain ⟨hcz230_0, hcz230_1, hcz230_2⟩ := cs3 BK234.out; obtain ⟨hfz230_0, hfz230_1, hfz230_2⟩ := fs3 BK234.out))
   refine bodyPost_ret (results_ct rfl _ _ gb234 34 #[.int .i64 0, .slice none 0 0, .slice none 0 0] (0, 0) _ rfl (by (with_reducible repeat (first | refine blk_drewN ?_ _ | refine blk_drew ?_ | refine blk_alloc ?_ _)); refine blk_put (cs := #[.int .i64 0, .slice none 0 0, .slice none 0 0]) ?_ 2 _ rfl; (with_reducible repeat (first | refine blk_drewN ?_ _ | refine blk_drew ?_ | refine blk_alloc ?_ _)); refine blk_put (cs := #[.int .i64 0, .slice none 0 0, .slice none 0 0]) ?_ 1 _ rfl; (with_reducible repeat (first | refine blk_drewN ?_ _ | refine blk_drew ?_ | refine blk_alloc ?_ _)); refine blk_put (cs := #[.int .i64 0, .slice none 0 0, .slice none 0 0]) ?_ 0 _ rfl; (with_reducible repeat (first | refine blk_drewN ?_ _ | refine blk_drew ?_ | refine blk_alloc ?_ _)); exact BK234.out) Try.underlying34 rfl (by kernel_rfl)) rfl ?_
   exact ⟨_, _, by first | rfl | (simp [errW_none, errW_some] <;> rfl) | (simp [*, errW_none, errW_some] <;> rfl), by first | exact Kd.R_nil _ _ _ _ _ | exact Kd.N_nil _ _ _ _ _ | exact Kd.V_nil _ _ _ _ _ | exact Kd.Q_nil _ _ _ _ _ | exact Kd.S_nil _ _ _ _ _, by first | exact Kd.S_nil _ _ _ _ _ | exact Kd.N_nil _ _ _ _ _ | exact Kd.V_nil _ _ _ _ _ | exact Kd.Q_nil _ _ _ _ _ | exact Kd.R_nil _ _ _ _ _, hz3 HB.out GE232.out GE233.out GE234.out⟩
 ·
  replace c4 := Bool.eq_false_iff.mpr c4
  subst c4
  have H1 : (none) = some (r1, r2, r3, r4) := by rw [if_neg (show ¬ (false = true) by decide)] at H; exact H
  clear H
  have H := H1
  clear H1
  exact absurd H (by simp)

/-! ### upload_Need: function 21 -/
def upload_Need.f (a0_0 : Int) (l0_1 : List Int) (l0_2 : List (S25)) : Option (Int) := some (l0_1.length : Int)
set_option maxHeartbeats 8000000 in
set_option maxRecDepth 100000 in
theorem upload_Need.calls (a0_0 : Int) (A0_1 : Option Addr) (c0_1 : Nat) (l0_1 : List Int) (A0_2 : Option Addr) (c0_2 : Nat) (l0_2 : List (S25)) (r : Int) (w : World) (hr0_1 : Kd.C (Kd.int .u8) w A0_1 l0_1.length l0_1) (hc0_1 : l0_1.length ≤ c0_1) (hr0_2 : Kd.C k25 w A0_2 l0_2.length l0_2) (hc0_2 : l0_2.length ≤ c0_2) (h : upload_Need.f a0_0 l0_1 l0_2 = some r) :
  Calls Try.prog 21 #[.agg #[.int .i64 a0_0, .slice A0_1 l0_1.length c0_1, .slice A0_2 l0_2.length c0_2]] w fun e w' => e = .returned (.int .i64 r) ∧ Below w.heap.size w w' := by
 have hu34 := Try.underlying34
 have HR0_1 := am hr0_1
 have HC0_1 := am hc0_1
 clear hr0_1 hc0_1
 have HR0_2 := am hr0_2
 have HC0_2 := am hc0_2
 clear hr0_2 hc0_2
 have HB := am (Below.refl w.heap.size w)
 have H : (some (l0_1.length : Int)) = some r := h
 clear h
 obtain rfl := Option.some.inj H
 go_enter Try.func21, Try.ntmps21
 go_wp2_with (first | ((with_reducible refine gate_dst (N := 1) rfl ?_); refine box_event ?hg (N := 1) ?hd (cs := #[.int .i64 a0_0, .slice A0_1 l0_1.length c0_1, .slice A0_2 l0_2.length c0_2]) (t := 34) ?hr ?_; (case hd => rfl); (case hg => rfl); (case hr => exact gz); intro gb299 hg w2 hbox hb; have BK299 := am (hbox); have GW299 := am ((bs hg (hz HB.out) : w.heap.size ≤ gb299)); have GE299 := am ((bs hg (hz HB.out) : w.heap.size ≤ gb299)); replace HB := am (below_step (hz HB.out) hb); clear hb hbox hg; obtain ⟨hcz3_0, hcz3_1, hcz3_2⟩ := cs3 BK299.out; obtain ⟨hfz3_0, hfz3_1, hfz3_2⟩ := fs3 BK299.out))
 go_ret
 exact ⟨ez, hz1 HB.out GE299.out⟩

end Go.Proofs.Ytglpnbcockancaa.Q
