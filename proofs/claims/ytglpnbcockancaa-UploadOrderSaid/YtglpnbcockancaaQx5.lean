/- Made by wip/myprint.py of this session (it drives the kit's printer): what the calls of the Go functions come to, as plain Lean functions, and the row of a law over them; without conditions. -/
import Derived.Test.YtglpnbcockancaaQx0
import Derived.Test.YtglpnbcockancaaQx1
import Derived.Test.YtglpnbcockancaaQx2
import Derived.Test.YtglpnbcockancaaQx3
import Derived.Test.YtglpnbcockancaaQx4
namespace Go.Proofs.Ytglpnbcockancaa.Q
open Go.RowKit Go.Proofs.YtglpnbcockancaaW.PrintWords Go.Proofs.YtglpnbcockancaaW.PrintLast Go.Proofs.YtglpnbcockancaaW.PrintMore
attribute [local go_sem] max2_int min2_int max_two min_two max_three min_three max_four min_four   -- for this text's walks alone
set_option linter.unusedVariables false
set_option linter.unusedSimpArgs false

set_option maxHeartbeats 8000000 in
set_option maxRecDepth 100000 in
theorem upload_Receive.callsA (k : Nat) (a0_0 : Int) (A0_1 : Option Addr) (c0_1 : Nat) (l0_1 : List Int) (A0_2 : Option Addr) (c0_2 : Nat) (l0_2 : List (S25)) (a1_0 : Int) (a1_1 : Int) (A1_2 : Option Addr) (c1_2 : Nat) (l1_2 : List Int) (a1_3 : Int) (r1 : Int) (r2 : List Int) (r3 : List (S25)) (r4 : Int) (w : World) (t236 : Int) (t238 : List Int) (HR0_1 : Aside0 (Kd.C (Kd.int .u8) w A0_1 l0_1.length l0_1)) (HC0_1 : Aside0 (l0_1.length ≤ c0_1)) (HR0_2 : Aside0 (Kd.C k25 w A0_2 l0_2.length l0_2)) (HC0_2 : Aside0 (l0_2.length ≤ c0_2)) (HR1_2 : Aside0 (Kd.C (Kd.int .u8) w A1_2 l1_2.length l1_2)) (HC1_2 : Aside0 (l1_2.length ≤ c1_2)) (HB : Aside0 (Below w.heap.size w w)) (A3 : Aside0 (upload_valid.f k a0_0 l0_1 l0_2 = some true)) (A5 : Aside0 (upload_check.f k a1_0 a1_1 l1_2 a1_3 = some t236)) (A8 : Aside0 (upload_conflict.f k a0_0 l0_1 l0_2 a1_0 a1_1 l1_2 a1_3 = some false)) (A10 : Aside0 (bytes_Clone.f l0_1 = some t238)) (c6b0 : (t236 == 0) = true) (c6b1 : (t236 != 0) = false) (c7b0 : (a1_0 == a0_0) = true) (c7b1 : (a1_0 != a0_0) = false) (H : (if a1_1 > (l0_1.length : Int) then ((upload_known_any.f k l0_2 a1_0 a1_1 l1_2 a1_3).bind fun t242 => (if t242 = true then (upload_Receive.j0 k t242 false a0_0 l0_1 l0_2 a1_0 a1_1 l1_2 a1_3 a0_0 t238) else (upload_Receive.j0 k t242 (decide ((l0_2.length : Int) ≥ 1024)) a0_0 l0_1 l0_2 a1_0 a1_1 l1_2 a1_3 a0_0 t238))) else ((upload_extended.f t238 a1_0 a1_1 l1_2 a1_3).bind fun t282 => (upload_Receive.l1 k l0_2 (l0_2.length : Int) 0 a0_0 t282 ([] : List (S25))))) = some (r1, r2, r3, r4)) (c11 : a1_1 > (l0_1.length : Int)) :
  Calls Try.prog 20 #[.agg #[.int .i64 a0_0, .slice A0_1 l0_1.length c0_1, .slice A0_2 l0_2.length c0_2], .agg #[.int .i64 a1_0, .int .i64 a1_1, .slice A1_2 l1_2.length c1_2, .int .u64 a1_3]] w fun e w' => ∃ v1_ v2_ : Value, e = .returned (.tuple #[.agg #[.int .i64 r1, v1_, v2_], .int .i64 r4]) ∧ Kd.R (Kd.int .u8) 5 w' w.heap.size (fun _ => True) v1_ r2 ∧ Kd.S k25 25 w' w.heap.size (fun k_ => some k_ ≠ (v1_ : Value).ownBlock) v2_ r3 ∧ Below w.heap.size w w' := by
 have hu34 := Try.underlying34
 have hu25 := Try.underlying25
 rw [if_pos c11] at H
 have c11b0 : decide ((l0_1.length : Int) < a1_1) = true := decide_eq_true c11
 clear c11
 replace H := Option.bind_eq_some_iff.mp H
 obtain ⟨t242, A120, H⟩ := H
 replace H : (if t242 = true then (upload_Receive.j0 k t242 false a0_0 l0_1 l0_2 a1_0 a1_1 l1_2 a1_3 a0_0 t238) else (upload_Receive.j0 k t242 (decide ((l0_2.length : Int) ≥ 1024)) a0_0 l0_1 l0_2 a1_0 a1_1 l1_2 a1_3 a0_0 t238)) = some (r1, r2, r3, r4) := H
 have A12 := am A120
 clear A120
 have HC13 := am H
 clear H
 go_enter Try.func20, Try.ntmps20
 try go_wp2_with (first | ((with_reducible refine gate_dst (N := 2) rfl ?_); (try (refine gate_guard (by rfl) ?_; dsimp only)); refine box_event ?hg (N := 2) ?hd (cs := #[.int .i64 a0_0, .slice A0_1 l0_1.length c0_1, .slice A0_2 l0_2.length c0_2]) (t := 34) ?hr ?_; (case hd => rfl); (case hg => rfl); (case hr => exact gz); intro gb232 hg w14 hbox hb; have BK232 := am (hbox); have GW232 := am ((bs hg (hz HB.out) : w.heap.size ≤ gb232)); have GE232 := am ((bs hg (hz HB.out) : w.heap.size ≤ gb232)); replace HB := am (below_step (hz HB.out) hb); clear hb hbox hg) | ((with_reducible refine gate_dst (N := 3) rfl ?_); (try (refine gate_guard (by rfl) ?_; dsimp only)); refine box_event ?hg (N := 3) ?hd (cs := #[.int .i64 a1_0, .int .i64 a1_1, .slice A1_2 l1_2.length c1_2, .int .u64 a1_3]) (t := 25) ?hr ?_; (case hd => rfl); (case hg => rfl); (case hr => exact gz); intro gb233 hg w15 hbox hb; have BK233 := am (hbox); have GW233 := am ((bs hg (hz1 HB.out GE232.out) : w.heap.size ≤ gb233)); have GE233 := am ((bs hg (hz1 HB.out GE232.out) : w.heap.size ≤ gb233)); replace HB := am (below_step (hz1 HB.out GE232.out) hb); have NB232_233 := am ((nl hg (bz BK232.out) : gb232 ≠ gb233)); have NB233_232 := am ((ng hg (bz BK232.out) : gb233 ≠ gb232)); replace BK232 := am (blk_below (bz BK232.out) hb); clear hb hbox hg) | ((with_reducible refine gate_dst (N := 4) rfl ?_); (try (refine gate_guard (by rfl) ?_; dsimp only)); refine box_event ?hg (N := 4) ?hd (cs := #[.int .i64 0, .slice none 0 0, .slice none 0 0]) (t := 34) ?hr ?_; (case hd => rfl); (case hg => rfl); (case hr => exact gz); intro gb234 hg w16 hbox hb; have BK234 := am (hbox); have GW234 := am ((bs hg (hz2 HB.out GE232.out GE233.out) : w.heap.size ≤ gb234)); have GE234 := am ((bs hg (hz2 HB.out GE232.out GE233.out) : w.heap.size ≤ gb234)); replace HB := am (below_step (hz2 HB.out GE232.out GE233.out) hb); have NB232_234 := am ((nl hg (bz BK232.out) : gb232 ≠ gb234)); have NB234_232 := am ((ng hg (bz BK232.out) : gb234 ≠ gb232)); replace BK232 := am (blk_below (bz BK232.out) hb); have NB233_234 := am ((nl hg (bz BK233.out) : gb233 ≠ gb234)); have NB234_233 := am ((ng hg (bz BK233.out) : gb234 ≠ gb233)); replace BK233 := am (blk_below (bz BK233.out) hb); clear hb hbox hg; have hnb17 := NB232_233.out; have hnc17 := NB233_232.out; have hnb18 := NB232_234.out; have hnc18 := NB234_232.out; obtain ⟨hcz19_0, hcz19_1, hcz19_2⟩ := cs3 BK232.out; obtain ⟨hfz19_0, hfz19_1, hfz19_2⟩ := fs3 BK232.out) | ((with_reducible refine gate_callee (f := 36) rfl ?_); refine goesL_ (some 15) rfl rfl Try.func36 (by kernel_rfl) rfl #[.agg #[.int .i64 a0_0, .slice A0_1 l0_1.length c0_1, .slice A0_2 l0_2.length c0_2]] rfl lz ?_; (with_reducible refine (upload_valid.calls k a0_0 _ _ l0_1 _ _ l0_2 true _ ?side1 ?side2 ?side3 ?side4 A3.out).mono ?_); (case side1 => exact cz (Kd.C_below HR0_1.out HB.out)); (case side2 => exact HC0_1.out); (case side3 => exact cz (Kd.C_below HR0_2.out HB.out)); (case side4 => exact HC0_2.out); rintro e w20 ⟨rfl, hb⟩; refine ⟨_, rfl, ?_⟩; replace BK232 := am (blk_below (bz BK232.out) hb); replace BK233 := am (blk_below (bz BK233.out) hb); replace BK234 := am (blk_below (bz BK234.out) hb); replace HB := am (below_step (hz3 HB.out GE232.out GE233.out GE234.out) hb); (try clear hb); (try clear hb2); (try clear hk); (try clear hi); have hnb21 := NB233_234.out; have hnc21 := NB234_233.out; obtain ⟨hcz22_0, hcz22_1, hcz22_2, hcz22_3⟩ := cs4 BK233.out; obtain ⟨hfz22_0, hfz22_1, hfz22_2, hfz22_3⟩ := fs4 BK233.out) | ((with_reducible refine gate_callee (f := 37) rfl ?_); refine goesL_ (some 19) rfl rfl Try.func37 (by kernel_rfl) rfl #[.agg #[.int .i64 a1_0, .int .i64 a1_1, .slice A1_2 l1_2.length c1_2, .int .u64 a1_3]] rfl lz ?_; (with_reducible refine (upload_check.calls k a1_0 a1_1 _ _ l1_2 a1_3 t236 _ ?side1 ?side2 A5.out).mono ?_); (case side1 => exact cz (Kd.C_below HR1_2.out HB.out)); (case side2 => exact HC1_2.out); rintro e w23 ⟨rfl, hb⟩; refine ⟨_, rfl, ?_⟩; replace BK232 := am (blk_below (bz BK232.out) hb); replace BK233 := am (blk_below (bz BK233.out) hb); replace BK234 := am (blk_below (bz BK234.out) hb); replace HB := am (below_step (hz3 HB.out GE232.out GE233.out GE234.out) hb); (try clear hb); (try clear hb2); (try clear hk); (try clear hi); obtain ⟨hcz24_0, hcz24_1, hcz24_2, hcz24_3⟩ := cs4 BK233.out; obtain ⟨hfz24_0, hfz24_1, hfz24_2, hfz24_3⟩ := fs4 BK233.out; obtain ⟨hcz25_0, hcz25_1, hcz25_2⟩ := cs3 BK232.out; obtain ⟨hfz25_0, hfz25_1, hfz25_2⟩ := fs3 BK232.out) | ((with_reducible refine gate_callee (f := 38) rfl ?_); refine goesL_ (some 32) rfl rfl Try.func38 (by kernel_rfl) rfl #[.agg #[.int .i64 a0_0, .slice A0_1 l0_1.length c0_1, .slice A0_2 l0_2.length c0_2], .agg #[.int .i64 a1_0, .int .i64 a1_1, .slice A1_2 l1_2.length c1_2, .int .u64 a1_3]] rfl lz ?_; (with_reducible refine (upload_conflict.calls k a0_0 _ _ l0_1 _ _ l0_2 a1_0 a1_1 _ _ l1_2 a1_3 false _ ?side1 ?side2 ?side3 ?side4 ?side5 ?side6 A8.out).mono ?_); (case side1 => exact cz (Kd.C_below HR0_1.out HB.out)); (case side2 => exact HC0_1.out); (case side3 => exact cz (Kd.C_below HR0_2.out HB.out)); (case side4 => exact HC0_2.out); (case side5 => exact cz (Kd.C_below HR1_2.out HB.out)); (case side6 => exact HC1_2.out); rintro e w26 ⟨rfl, hb⟩; refine ⟨_, rfl, ?_⟩; replace BK232 := am (blk_below (bz BK232.out) hb); replace BK233 := am (blk_below (bz BK233.out) hb); replace BK234 := am (blk_below (bz BK234.out) hb); replace HB := am (below_step (hz3 HB.out GE232.out GE233.out GE234.out) hb); (try clear hb); (try clear hb2); (try clear hk); (try clear hi)))
 replace BK232 := am (blk_drew BK232.out)
 replace BK233 := am (blk_drew BK233.out)
 replace BK234 := am (blk_drew BK234.out)
 replace HB := am (below_drew1 HB.out)
 refine start_ (n := 8) (S := fun w' => w'.cell? ⟨gb232, 0, none⟩ = some (.int .i64 a0_0) ∧ w'.cell? ⟨gb232, 1, none⟩ = some (.slice A0_1 l0_1.length c0_1) ∧ w'.cell? ⟨gb232, 2, none⟩ = some (.slice A0_2 l0_2.length c0_2)) (ds := []) #[false, false, false, false, false, false, false, false] (by kernel_rfl) rfl rfl ⟨(blk_cell BK232.out 0).trans rfl, (blk_cell BK232.out 1).trans rfl, (blk_cell BK232.out 2).trans rfl⟩ (fun hHeld => ?_); refine with_tabW upload_Receive.tab10 upload_Receive.bits10 (fun HT_ HW_ => ?_)
 generalize w26.drew = w27 at BK232 BK233 BK234 HB hHeld ⊢
 refine pz 0 34 HT_.out ?_
 refine pz 2 36 HT_.out ?_
 refine tz3 1 35 HT_.out HW_.out hHeld ?_
 refine tz3 3 37 HT_.out HW_.out hHeld ?_
 refine join_ (σ := Value × Nat) 1 #[true, true, true, true, true, true, true, false] (fun s_ => [(38, s_.1), (7, .pointer (some ⟨s_.2, 0, none⟩)), (39, .agg #[.int .i64 a0_0, s_.1, .slice none 0 0])]) (fun s_ w' => (w'.cell? ⟨gb232, 0, none⟩ = some (.int .i64 a0_0) ∧ w'.cell? ⟨gb232, 1, none⟩ = some (.slice A0_1 l0_1.length c0_1) ∧ w'.cell? ⟨gb232, 2, none⟩ = some (.slice A0_2 l0_2.length c0_2)) ∧ (Kd.R (Kd.int .u8) 5 w' w.heap.size (fun _ => True) s_.1 t238) ∧ (w'.heap[gb232]? = some (.cells #[.int .i64 a0_0, .slice A0_1 l0_1.length c0_1, .slice A0_2 l0_2.length c0_2] 34 (0, 0))) ∧ (w'.heap[gb233]? = some (.cells #[.int .i64 a1_0, .int .i64 a1_1, .slice A1_2 l1_2.length c1_2, .int .u64 a1_3] 25 (0, 0))) ∧ (w'.heap[gb234]? = some (.cells #[.int .i64 0, .slice none 0 0, .slice none 0 0] 34 (0, 0))) ∧ (w'.heap[s_.2]? = some (.cells #[.int .i64 0, .slice none 0 0, .slice none 0 0] 34 (0, 0))) ∧ (w.heap.size ≤ s_.2) ∧ (w.heap.size ≤ s_.2) ∧ (gb232 ≠ s_.2) ∧ (s_.2 ≠ gb232) ∧ (gb233 ≠ s_.2) ∧ (s_.2 ≠ gb233) ∧ (gb234 ≠ s_.2) ∧ (s_.2 ≠ gb234) ∧ (Below w.heap.size w w')) ?_ ?_
 rotate_left
 ·
  intro hCont
  refine two_ (i := 4) (j := 6) (Ni := some 38) (Nj := some 7) #[true, true, true, true, true, false, false, false] #[true, true, true, true, false, false, true, false] rfl rfl rfl rfl (two_of HT_.out (by kernel_rfl)) (by decide) (by decide) (fun K hK => ?_) (fun K hK => ?_)
  ·
   skip
   refine goes_ Try.func26 (by kernel_rfl) rfl #[.slice A0_1 l0_1.length c0_1] (by rfl) rfl rfl lz ?_
   with_reducible refine (bytes_Clone.calls _ _ l0_1 t238 _ ?side1 ?side2 A10.out).mono ?_
   (case side1 => exact cz (Kd.C_below HR0_1.out HB.out))
   (case side2 => exact HC0_1.out)
   rintro e w28 ⟨v239, rfl, ho0, hb⟩
   refine ⟨_, rfl, ?_⟩
   have HO240 := am (Kd.R_lower ho0 (below_size (hz3 HB.out GE232.out GE233.out GE234.out)))
   replace BK232 := am (blk_below (bz BK232.out) hb)
   replace BK233 := am (blk_below (bz BK233.out) hb)
   replace BK234 := am (blk_below (bz BK234.out) hb)
   replace HB := am (below_step (hz3 HB.out GE232.out GE233.out GE234.out) hb)
   (try clear hb)
   (try clear hb2)
   (try clear hk)
   (try clear hi)
   (try clear ho0)
   obtain ⟨Ao29, co29, eo29⟩ := Kd.R_slice HO240.out
   (first | subst eo29 | (injection eo29 with f1_ f2_ f3_; have f4_ := f1_.symm; have f5_ := f3_.symm; clear f1_ f2_ f3_; subst f4_; subst f5_))
   refine hK.out _ _ ⟨(blk_cell BK232.out 0).trans rfl, (blk_cell BK232.out 1).trans rfl, (blk_cell BK232.out 2).trans rfl⟩ (fun hHeld => ?_)
   clear hK K
   refine norm_ (a' := ?_) ?_ ?_
   rotate_left
   ·
    show Act.put _ (some 38) _ = _
    simp only [Act.put, List.setIfInBounds_toArray, List.set_cons_zero, List.set_cons_succ, i64_w, i32_w]
    rfl
   refine pz 5 39 HT_.out ?_
   refine oz 6 7 HT_.out (fun K hK => ?_)
   refine box_step ?hg (N := 7) ?hd (cs := #[.int .i64 0, .slice none 0 0, .slice none 0 0]) (t := 34) ?hr ?_; (case hd => rfl); (case hg => rfl); (case hr => exact gz)
   intro gb241 hg w30 hbox hb
   replace HO240 := am (Kd.R_below (rz HO240.out) hb)
   have BK241 := am (hbox)
   have GW241 := am ((bs hg (hz3 HB.out GE232.out GE233.out GE234.out) : w.heap.size ≤ gb241))
   have GE241 := am ((bs hg (hz3 HB.out GE232.out GE233.out GE234.out) : w.heap.size ≤ gb241))
   replace HB := am (below_step (hz3 HB.out GE232.out GE233.out GE234.out) hb)
   have NB232_241 := am ((nl hg (bz BK232.out) : gb232 ≠ gb241))
   have NB241_232 := am ((ng hg (bz BK232.out) : gb241 ≠ gb232))
   replace BK232 := am (blk_below (bz BK232.out) hb)
   have NB233_241 := am ((nl hg (bz BK233.out) : gb233 ≠ gb241))
   have NB241_233 := am ((ng hg (bz BK233.out) : gb241 ≠ gb233))
   replace BK233 := am (blk_below (bz BK233.out) hb)
   have NB234_241 := am ((nl hg (bz BK234.out) : gb234 ≠ gb241))
   have NB241_234 := am ((ng hg (bz BK234.out) : gb241 ≠ gb234))
   replace BK234 := am (blk_below (bz BK234.out) hb)
   clear hb hbox hg
   refine hK.out _ _ ⟨(blk_cell BK232.out 0).trans rfl, (blk_cell BK232.out 1).trans rfl, (blk_cell BK232.out 2).trans rfl⟩ (fun hHeld => ?_)
   clear hK K
   refine norm_ (a' := ?_) ?_ ?_
   rotate_left
   ·
    show Act.put _ (some 7) _ = _
    simp only [Act.put, List.setIfInBounds_toArray, List.set_cons_zero, List.set_cons_succ, i64_w, i32_w]
    rfl
   exact norm_ (by simp only [putAll, Act.put, List.setIfInBounds_toArray, List.set_cons_zero, List.set_cons_succ]) (hCont (.slice Ao29 t238.length co29, gb241) _ ⟨hHeld, (rz HO240.out), (bz BK232.out), (bz BK233.out), (bz BK234.out), (bz BK241.out), GW241.out, GE241.out, NB232_241.out, NB241_232.out, NB233_241.out, NB241_233.out, NB234_241.out, NB241_234.out, (hz4 HB.out GE232.out GE233.out GE234.out GE241.out)⟩)
  ·
   skip
   refine box_step ?hg (N := 7) ?hd (cs := #[.int .i64 0, .slice none 0 0, .slice none 0 0]) (t := 34) ?hr ?_; (case hd => rfl); (case hg => rfl); (case hr => exact gz)
   intro gb241 hg w28 hbox hb
   have BK241 := am (hbox)
   have GW241 := am ((bs hg (hz3 HB.out GE232.out GE233.out GE234.out) : w.heap.size ≤ gb241))
   have GE241 := am ((bs hg (hz3 HB.out GE232.out GE233.out GE234.out) : w.heap.size ≤ gb241))
   replace HB := am (below_step (hz3 HB.out GE232.out GE233.out GE234.out) hb)
   have NB232_241 := am ((nl hg (bz BK232.out) : gb232 ≠ gb241))
   have NB241_232 := am ((ng hg (bz BK232.out) : gb241 ≠ gb232))
   replace BK232 := am (blk_below (bz BK232.out) hb)
   have NB233_241 := am ((nl hg (bz BK233.out) : gb233 ≠ gb241))
   have NB241_233 := am ((ng hg (bz BK233.out) : gb241 ≠ gb233))
   replace BK233 := am (blk_below (bz BK233.out) hb)
   have NB234_241 := am ((nl hg (bz BK234.out) : gb234 ≠ gb241))
   have NB241_234 := am ((ng hg (bz BK234.out) : gb241 ≠ gb234))
   replace BK234 := am (blk_below (bz BK234.out) hb)
   clear hb hbox hg
   refine hK.out _ _ ⟨(blk_cell BK232.out 0).trans rfl, (blk_cell BK232.out 1).trans rfl, (blk_cell BK232.out 2).trans rfl⟩ (fun hHeld => ?_)
   clear hK K
   refine norm_ (a' := ?_) ?_ ?_
   rotate_left
   ·
    show Act.put _ (some 7) _ = _
    simp only [Act.put, List.setIfInBounds_toArray, List.set_cons_zero, List.set_cons_succ, i64_w, i32_w]
    rfl
   refine oz 4 38 HT_.out (fun K hK => ?_)
   refine goes_ Try.func26 (by kernel_rfl) rfl #[.slice A0_1 l0_1.length c0_1] (by rfl) rfl rfl lz ?_
   with_reducible refine (bytes_Clone.calls _ _ l0_1 t238 _ ?side1 ?side2 A10.out).mono ?_
   (case side1 => exact cz (Kd.C_below HR0_1.out HB.out))
   (case side2 => exact HC0_1.out)
   rintro e w29 ⟨v239, rfl, ho0, hb⟩
   refine ⟨_, rfl, ?_⟩
   have HO240 := am (Kd.R_lower ho0 (below_size (hz4 HB.out GE232.out GE233.out GE234.out GE241.out)))
   replace BK232 := am (blk_below (bz BK232.out) hb)
   replace BK233 := am (blk_below (bz BK233.out) hb)
   replace BK234 := am (blk_below (bz BK234.out) hb)
   replace BK241 := am (blk_below (bz BK241.out) hb)
   replace HB := am (below_step (hz4 HB.out GE232.out GE233.out GE234.out GE241.out) hb)
   (try clear hb)
   (try clear hb2)
   (try clear hk)
   (try clear hi)
   (try clear ho0)
   obtain ⟨Ao30, co30, eo30⟩ := Kd.R_slice HO240.out
   (first | subst eo30 | (injection eo30 with f1_ f2_ f3_; have f4_ := f1_.symm; have f5_ := f3_.symm; clear f1_ f2_ f3_; subst f4_; subst f5_))
   refine hK.out _ _ ⟨(blk_cell BK232.out 0).trans rfl, (blk_cell BK232.out 1).trans rfl, (blk_cell BK232.out 2).trans rfl⟩ (fun hHeld => ?_)
   clear hK K
   refine norm_ (a' := ?_) ?_ ?_
   rotate_left
   ·
    show Act.put _ (some 38) _ = _
    simp only [Act.put, List.setIfInBounds_toArray, List.set_cons_zero, List.set_cons_succ, i64_w, i32_w]
    rfl
   refine pz 5 39 HT_.out ?_
   exact norm_ (by simp only [putAll, Act.put, List.setIfInBounds_toArray, List.set_cons_zero, List.set_cons_succ]) (hCont (.slice Ao30 t238.length co30, gb241) _ ⟨hHeld, (rz HO240.out), (bz BK232.out), (bz BK233.out), (bz BK234.out), (bz BK241.out), GW241.out, GE241.out, NB232_241.out, NB241_232.out, NB233_241.out, NB241_233.out, NB234_241.out, NB241_234.out, (hz4 HB.out GE232.out GE233.out GE234.out GE241.out)⟩)
 rintro ⟨v239, gb241⟩ w31 ⟨hS_, h0_, h1_, h2_, h3_, h4_, h5_, h6_, h7_, h8_, h9_, h10_, h11_, h12_, h13_⟩
 have n0_ : Aside0 (Kd.R (Kd.int .u8) 5 w31 w.heap.size (fun _ => True) v239 t238) := ⟨h0_⟩
 have n1_ : Aside0 (w31.heap[gb232]? = some (.cells #[.int .i64 a0_0, .slice A0_1 l0_1.length c0_1, .slice A0_2 l0_2.length c0_2] 34 (0, 0))) := ⟨h1_⟩
 have n2_ : Aside0 (w31.heap[gb233]? = some (.cells #[.int .i64 a1_0, .int .i64 a1_1, .slice A1_2 l1_2.length c1_2, .int .u64 a1_3] 25 (0, 0))) := ⟨h2_⟩
 have n3_ : Aside0 (w31.heap[gb234]? = some (.cells #[.int .i64 0, .slice none 0 0, .slice none 0 0] 34 (0, 0))) := ⟨h3_⟩
 have n4_ : Aside0 (w31.heap[gb241]? = some (.cells #[.int .i64 0, .slice none 0 0, .slice none 0 0] 34 (0, 0))) := ⟨h4_⟩
 have n5_ : Aside0 (w.heap.size ≤ gb241) := ⟨h5_⟩
 have n6_ : Aside0 (w.heap.size ≤ gb241) := ⟨h6_⟩
 have n7_ : Aside0 (gb232 ≠ gb241) := ⟨h7_⟩
 have n8_ : Aside0 (gb241 ≠ gb232) := ⟨h8_⟩
 have n9_ : Aside0 (gb233 ≠ gb241) := ⟨h9_⟩
 have n10_ : Aside0 (gb241 ≠ gb233) := ⟨h10_⟩
 have n11_ : Aside0 (gb234 ≠ gb241) := ⟨h11_⟩
 have n12_ : Aside0 (gb241 ≠ gb234) := ⟨h12_⟩
 have n13_ : Aside0 (Below w.heap.size w w31) := ⟨h13_⟩
 clear BK232
 clear BK233
 clear BK234
 clear HB
 clear h0_ h1_ h2_ h3_ h4_ h5_ h6_ h7_ h8_ h9_ h10_ h11_ h12_ h13_
 have HO240 := n0_
 have BK232 := n1_
 have BK233 := n2_
 have BK234 := n3_
 have BK241 := n4_
 have GW241 := n5_
 have GE241 := n6_
 have NB232_241 := n7_
 have NB241_232 := n8_
 have NB233_241 := n9_
 have NB241_233 := n10_
 have NB234_241 := n11_
 have NB241_234 := n12_
 have HB := n13_
 clear n0_ n1_ n2_ n3_ n4_ n5_ n6_ n7_ n8_ n9_ n10_ n11_ n12_ n13_
 have hHeld : w31.cell? ⟨gb232, 0, none⟩ = some (.int .i64 a0_0) ∧ w31.cell? ⟨gb232, 1, none⟩ = some (.slice A0_1 l0_1.length c0_1) ∧ w31.cell? ⟨gb232, 2, none⟩ = some (.slice A0_2 l0_2.length c0_2) := hS_
 obtain ⟨Ao32, co32, eo32⟩ := Kd.R_slice HO240.out
 (first | subst eo32 | (injection eo32 with f1_ f2_ f3_; have f4_ := f1_.symm; have f5_ := f3_.symm; clear f1_ f2_ f3_; subst f4_; subst f5_))
 refine norm_ (a' := ?_) ?_ ?_
 rotate_left
 ·
  simp only [putAll, Act.put, List.setIfInBounds_toArray, List.set_cons_zero, List.set_cons_succ]
  rfl
 refine one_ (i := 7) (N := none) #[true, true, true, true, true, true, true, true] rfl rfl (one_of HT_.out (by kernel_rfl)) (by decide) (fun K hK => ?_)
 have hs33 : w31.cell? ⟨gb241, 0, none⟩ = some (.int .i64 0) := (blk_cell BK241.out 0).trans rfl
 have hfs33 := blk_frozen BK241.out 0
 have hns33_0 := NB232_241.out
 have hns33_1 := NB233_241.out
 have hns33_2 := NB234_241.out
 have hms33_0 := NB241_232.out
 have hms33_1 := NB241_233.out
 have hms33_2 := NB241_234.out
 have hs34 : w31.cell? ⟨gb241, 1, none⟩ = some (.slice none 0 0) := (blk_cell BK241.out 1).trans rfl
 have hfs34 := blk_frozen BK241.out 1
 have hns34_0 := NB232_241.out
 have hns34_1 := NB233_241.out
 have hns34_2 := NB234_241.out
 have hms34_0 := NB241_232.out
 have hms34_1 := NB241_233.out
 have hms34_2 := NB241_234.out
 have hs35 : w31.cell? ⟨gb241, 2, none⟩ = some (.slice none 0 0) := (blk_cell BK241.out 2).trans rfl
 have hfs35 := blk_frozen BK241.out 2
 have hns35_0 := NB232_241.out
 have hns35_1 := NB233_241.out
 have hns35_2 := NB234_241.out
 have hms35_0 := NB241_232.out
 have hms35_1 := NB241_233.out
 have hms35_2 := NB241_234.out
 refine skip_ (w1 := ?_) (by rfl) rfl ?_ ?_
 rotate_left
 ·
  go_simp
  rfl
 refine hK.out _ _ ⟨((cell_far (p := ⟨gb241, _, none⟩) NB232_241.out _).trans (((cell_far (p := ⟨gb241, _, none⟩) NB232_241.out _).trans (((cell_far (p := ⟨gb241, _, none⟩) NB232_241.out _).trans (hHeld.1)))))), ((cell_far (p := ⟨gb241, _, none⟩) NB232_241.out _).trans (((cell_far (p := ⟨gb241, _, none⟩) NB232_241.out _).trans (((cell_far (p := ⟨gb241, _, none⟩) NB232_241.out _).trans (hHeld.2.1)))))), ((cell_far (p := ⟨gb241, _, none⟩) NB232_241.out _).trans (((cell_far (p := ⟨gb241, _, none⟩) NB232_241.out _).trans (((cell_far (p := ⟨gb241, _, none⟩) NB232_241.out _).trans (hHeld.2.2))))))⟩ (fun hHeld => ?_)
 clear hK K
 refine done_ (done_of HT_.out (by kernel_rfl)) ?_
 have hnb36 := NB233_241.out
 have hnc36 := NB241_233.out
 have hcz37_0 : w31.cell? ⟨gb233, 0, none⟩ = some (.int .i64 a1_0) := (blk_cell BK233.out 0).trans rfl
 have hcz37_1 : w31.cell? ⟨gb233, 1, none⟩ = some (.int .i64 a1_1) := (blk_cell BK233.out 1).trans rfl
 have hcz37_2 : w31.cell? ⟨gb233, 2, none⟩ = some (.slice A1_2 l1_2.length c1_2) := (blk_cell BK233.out 2).trans rfl
 have hcz37_3 : w31.cell? ⟨gb233, 3, none⟩ = some (.int .u64 a1_3) := (blk_cell BK233.out 3).trans rfl
 have hfz37_0 := blk_frozen BK233.out 0
 have hfz37_1 := blk_frozen BK233.out 1
 have hfz37_2 := blk_frozen BK233.out 2
 have hfz37_3 := blk_frozen BK233.out 3
 have hnb38 := NB232_241.out
 have hnc38 := NB241_232.out
 have hcz39_0 : w31.cell? ⟨gb232, 0, none⟩ = some (.int .i64 a0_0) := (blk_cell BK232.out 0).trans rfl
 have hcz39_1 : w31.cell? ⟨gb232, 1, none⟩ = some (.slice A0_1 l0_1.length c0_1) := (blk_cell BK232.out 1).trans rfl
 have hcz39_2 : w31.cell? ⟨gb232, 2, none⟩ = some (.slice A0_2 l0_2.length c0_2) := (blk_cell BK232.out 2).trans rfl
 have hfz39_0 := blk_frozen BK232.out 0
 have hfz39_1 := blk_frozen BK232.out 1
 have hfz39_2 := blk_frozen BK232.out 2
 go_upto_region 13 with (first | ((with_reducible refine gate_callee (f := 39) rfl ?_); refine goesL_ (some 49) rfl rfl Try.func39 (by kernel_rfl) rfl #[.slice A0_2 l0_2.length c0_2, .func (.func 40) #[] #[.pointer (some ⟨gb233, 0, none⟩)]] rfl lz ?_; (refine (upload_known_any.calls (g := gb233) k _ _ l0_2 a1_0 a1_1 _ _ l1_2 a1_3 t242 _ (by exact Kd.C_below HR0_2.out (hz4 HB.out GE232.out GE233.out GE234.out GE241.out)) (by exact HC0_2.out) (by exact Kd.C_below HR1_2.out (hz4 HB.out GE232.out GE233.out GE234.out GE241.out)) (by exact HC1_2.out) (bf1 NB233_241.out BK233.out) A12.out).mono ?_); rintro e w40 ⟨rfl, hb⟩; refine ⟨_, rfl, ?_⟩; replace HO240 := am (Kd.R_below (rz (rf3 HO240.out BK241.out)) hb); replace BK232 := am (blk_below (bf1 NB232_241.out BK232.out) hb); replace BK233 := am (blk_below (bf1 NB233_241.out BK233.out) hb); replace BK234 := am (blk_below (bf1 NB234_241.out BK234.out) hb); replace BK241 := am (blk_below (g := gb241) (o := .cells #[.int .i64 a0_0, .slice Ao32 t238.length co32, .slice none 0 0] 34 (0, 0)) (by (with_reducible repeat (first | refine blk_drewN ?_ _ | refine blk_drew ?_ | refine blk_alloc ?_ _)); refine blk_put (cs := #[.int .i64 a0_0, .slice Ao32 t238.length co32, .slice none 0 0]) ?_ 2 _ rfl; (with_reducible repeat (first | refine blk_drewN ?_ _ | refine blk_drew ?_ | refine blk_alloc ?_ _)); refine blk_put (cs := #[.int .i64 a0_0, .slice none 0 0, .slice none 0 0]) ?_ 1 _ rfl; (with_reducible repeat (first | refine blk_drewN ?_ _ | refine blk_drew ?_ | refine blk_alloc ?_ _)); refine blk_put (cs := #[.int .i64 0, .slice none 0 0, .slice none 0 0]) ?_ 0 _ rfl; (with_reducible repeat (first | refine blk_drewN ?_ _ | refine blk_drew ?_ | refine blk_alloc ?_ _)); exact BK241.out) hb); replace HB := am (below_step (hz4 HB.out GE232.out GE233.out GE234.out GE241.out) hb); (try clear hb); (try clear hb2); (try clear hk); (try clear hi)))
 (try simp only [Act.put, List.setIfInBounds_toArray, List.set_cons_zero, List.set_cons_succ])
 go_cut [57] (fun v57 wc => ∃ (kq : Nat) (x57_12 : Bool), v57 = .bool x57_12 ∧ Aside0 (upload_Receive.j0 kq t242 x57_12 a0_0 l0_1 l0_2 a1_0 a1_1 l1_2 a1_3 a0_0 t238 = some (r1, r2, r3, r4)) ∧ Aside0 (kq ≤ k) ∧ Aside0 (Kd.R (Kd.int .u8) 5 wc w.heap.size (fun _ => True) (.slice Ao32 t238.length co32) t238) ∧ Aside0 (wc.heap[gb232]? = some (.cells #[.int .i64 a0_0, (.slice A0_1 l0_1.length c0_1), (.slice A0_2 l0_2.length c0_2)] 34 (0, 0))) ∧ Aside0 (wc.heap[gb233]? = some (.cells #[.int .i64 a1_0, .int .i64 a1_1, (.slice A1_2 l1_2.length c1_2), .int .u64 a1_3] 25 (0, 0))) ∧ Aside0 (wc.heap[gb234]? = some (.cells #[.int .i64 0, (.slice none 0 0), (.slice none 0 0)] 34 (0, 0))) ∧ Aside0 (wc.heap[gb241]? = some (.cells #[.int .i64 a0_0, (.slice Ao32 t238.length co32), (.slice none 0 0)] 34 (0, 0))) ∧ Aside0 (Below w.heap.size w wc))
 case first =>
  have H := HC13.out
  clear HC13
  by_cases c41 : t242 = true
  ·
   subst c41
   have H1 : (upload_Receive.j0 k true false a0_0 l0_1 l0_2 a1_0 a1_1 l1_2 a1_3 a0_0 t238) = some (r1, r2, r3, r4) := by rw [if_pos rfl] at H; exact H
   clear H
   have H := H1
   clear H1
   have H' := am H
   clear H
   go_wp2
   go_meet
   case rel => exact ⟨_, (false), (by first | rfl | (simp; done) | (simp [*]; done)), H', ⟨by first | omega | exact Nat.le_refl _⟩, ⟨by (with_reducible repeat (first | apply Kd.R_alloc | apply Kd.R_drewN | apply Kd.R_drew)); exact HO240.out⟩, ⟨by (with_reducible repeat (first | refine blk_drewN ?_ _ | refine blk_drew ?_ | refine blk_alloc ?_ _)); exact BK232.out⟩, ⟨by (with_reducible repeat (first | refine blk_drewN ?_ _ | refine blk_drew ?_ | refine blk_alloc ?_ _)); exact BK233.out⟩, ⟨by (with_reducible repeat (first | refine blk_drewN ?_ _ | refine blk_drew ?_ | refine blk_alloc ?_ _)); exact BK234.out⟩, ⟨by (with_reducible repeat (first | refine blk_drewN ?_ _ | refine blk_drew ?_ | refine blk_alloc ?_ _)); exact BK241.out⟩, ⟨hz4 HB.out GE232.out GE233.out GE234.out GE241.out⟩⟩
  ·
   replace c41 := Bool.eq_false_iff.mpr c41
   subst c41
   have H1 : (upload_Receive.j0 k false (decide ((l0_2.length : Int) ≥ 1024)) a0_0 l0_1 l0_2 a1_0 a1_1 l1_2 a1_3 a0_0 t238) = some (r1, r2, r3, r4) := by rw [if_neg (show ¬ (false = true) by decide)] at H; exact H
   clear H
   have H := H1
   clear H1
   have H' := am H
   clear H
   have hnb42 := NB232_233.out
   have hnc42 := NB233_232.out
   have hnb43 := NB232_234.out
   have hnc43 := NB234_232.out
   have hnb44 := NB232_241.out
   have hnc44 := NB241_232.out
   have hcz45_0 : w40.cell? ⟨gb232, 0, none⟩ = some (.int .i64 a0_0) := (blk_cell BK232.out 0).trans rfl
   have hcz45_1 : w40.cell? ⟨gb232, 1, none⟩ = some (.slice A0_1 l0_1.length c0_1) := (blk_cell BK232.out 1).trans rfl
   have hcz45_2 : w40.cell? ⟨gb232, 2, none⟩ = some (.slice A0_2 l0_2.length c0_2) := (blk_cell BK232.out 2).trans rfl
   have hfz45_0 := blk_frozen BK232.out 0
   have hfz45_1 := blk_frozen BK232.out 1
   have hfz45_2 := blk_frozen BK232.out 2
   go_wp2
   go_meet
   case rel => exact ⟨_, (decide ((l0_2.length : Int) ≥ 1024)), (by first | rfl | (simp; done) | (simp [*]; done)), H', ⟨by first | omega | exact Nat.le_refl _⟩, ⟨by (with_reducible repeat (first | apply Kd.R_alloc | apply Kd.R_drewN | apply Kd.R_drew)); exact HO240.out⟩, ⟨by (with_reducible repeat (first | refine blk_drewN ?_ _ | refine blk_drew ?_ | refine blk_alloc ?_ _)); exact BK232.out⟩, ⟨by (with_reducible repeat (first | refine blk_drewN ?_ _ | refine blk_drew ?_ | refine blk_alloc ?_ _)); exact BK233.out⟩, ⟨by (with_reducible repeat (first | refine blk_drewN ?_ _ | refine blk_drew ?_ | refine blk_alloc ?_ _)); exact BK234.out⟩, ⟨by (with_reducible repeat (first | refine blk_drewN ?_ _ | refine blk_drew ?_ | refine blk_alloc ?_ _)); exact BK241.out⟩, ⟨hz4 HB.out GE232.out GE233.out GE234.out GE241.out⟩⟩
 case rest =>
  clear HC13
  try clear c1
  try clear c2
  try clear p2
  try clear c3
  try clear c4
  try clear c6
  try clear c6b0
  try clear c6b1
  try clear c7
  try clear c7b0
  try clear c7b1
  try clear c9
  try clear c11
  try clear c11b0
  try clear c17
  try clear c18
  try clear c20
  try clear c21
  try clear c26
  try clear c36
  try clear c37
  try clear c38
  try clear c39
  try clear c41
  try clear c42
  try clear c43
  try clear c44
  try clear hcz19_0
  try clear hcz19_1
  try clear hcz19_2
  try clear hcz22_0
  try clear hcz22_1
  try clear hcz22_2
  try clear hcz22_3
  try clear hcz24_0
  try clear hcz24_1
  try clear hcz24_2
  try clear hcz24_3
  try clear hcz25_0
  try clear hcz25_1
  try clear hcz25_2
  try clear hcz37_0
  try clear hcz37_1
  try clear hcz37_2
  try clear hcz37_3
  try clear hcz39_0
  try clear hcz39_1
  try clear hcz39_2
  try clear hcz45_0
  try clear hcz45_1
  try clear hcz45_2
  try clear hfz19_0
  try clear hfz19_1
  try clear hfz19_2
  try clear hfz22_0
  try clear hfz22_1
  try clear hfz22_2
  try clear hfz22_3
  try clear hfz24_0
  try clear hfz24_1
  try clear hfz24_2
  try clear hfz24_3
  try clear hfz25_0
  try clear hfz25_1
  try clear hfz25_2
  try clear hfz37_0
  try clear hfz37_1
  try clear hfz37_2
  try clear hfz37_3
  try clear hfz39_0
  try clear hfz39_1
  try clear hfz39_2
  try clear hfz45_0
  try clear hfz45_1
  try clear hfz45_2
  obtain ⟨kq, x57_12, rfl, HA, HJ12, HO_242001, BK232, BK233, BK234, BK241, HB⟩ := hcut
  cases kq with
  | zero => exact absurd HA.out (by simp [upload_Receive.j0])
  | succ kj12 =>
   have H := HA.out
   clear HA
   simp only [upload_Receive.j0] at H
   by_cases c46 : x57_12 = true
   ·
    subst c46
    have H1 : (none) = some (r1, r2, r3, r4) := by rw [if_pos rfl] at H; exact H
    clear H
    have H := H1
    clear H1
    exact absurd H (by simp)
   ·
    replace c46 := Bool.eq_false_iff.mpr c46
    subst c46
    have H1 : (upload_Receive.l0 kj12 t242 l0_2 (l0_2.length : Int) 0 a1_0 a1_1 l1_2 a1_3 a0_0 t238 ([] : List (S25))) = some (r1, r2, r3, r4) := by rw [if_neg (show ¬ (false = true) by decide)] at H; exact H
    clear H
    have H := H1
    clear H1
    have H' := am H
    clear H
    have hnb47 := NB232_233.out
    have hnc47 := NB233_232.out
    have hnb48 := NB232_234.out
    have hnc48 := NB234_232.out
    have hnb49 := NB232_241.out
    have hnc49 := NB241_232.out
    have hcz50_0 : wc.cell? ⟨gb232, 0, none⟩ = some (.int .i64 a0_0) := (blk_cell BK232.out 0).trans rfl
    have hcz50_1 : wc.cell? ⟨gb232, 1, none⟩ = some (.slice A0_1 l0_1.length c0_1) := (blk_cell BK232.out 1).trans rfl
    have hcz50_2 : wc.cell? ⟨gb232, 2, none⟩ = some (.slice A0_2 l0_2.length c0_2) := (blk_cell BK232.out 2).trans rfl
    have hfz50_0 := blk_frozen BK232.out 0
    have hfz50_1 := blk_frozen BK232.out 1
    have hfz50_2 := blk_frozen BK232.out 2
    go_wp2
    go_loopg [9, 63] kj12 (fun kq v9 v63 w' => ∃ (x9_2 : Bool) (x63_2 : Int) (x242002_2 : List (S25)) (u242002 : Value), v9 = .bool x9_2 ∧ v63 = .int .i64 x63_2 ∧ Aside0 (upload_Receive.l0 kq x9_2 l0_2 (l0_2.length : Int) x63_2 a1_0 a1_1 l1_2 a1_3 a0_0 t238 x242002_2 = some (r1, r2, r3, r4)) ∧ Aside0 (kq ≤ kj12) ∧ Aside0 (Kd.R (Kd.int .u8) 5 w' w.heap.size (fun _ => True) (.slice Ao32 t238.length co32) t238) ∧ Aside0 (Kd.S k25 25 w' w.heap.size (fun k_ => some k_ ≠ ((.slice Ao32 t238.length co32) : Value).ownBlock ∧ k_ ≠ gb233) u242002 x242002_2) ∧ Aside0 (w'.heap[gb232]? = some (.cells #[.int .i64 a0_0, (.slice A0_1 l0_1.length c0_1), (.slice A0_2 l0_2.length c0_2)] 34 (0, 0))) ∧ Aside0 (w'.heap[gb233]? = some (.cells #[.int .i64 a1_0, .int .i64 a1_1, (.slice A1_2 l1_2.length c1_2), .int .u64 a1_3] 25 (0, 0))) ∧ Aside0 (w'.heap[gb234]? = some (.cells #[.int .i64 0, (.slice none 0 0), (.slice none 0 0)] 34 (0, 0))) ∧ Aside0 (w'.heap[gb241]? = some (.cells #[.int .i64 a0_0, (.slice Ao32 t238.length co32), u242002] 34 (0, 0))) ∧ Aside0 (Below w.heap.size w w'))
    case atStart => exact ⟨(t242), (0), (([] : List (S25))), (.slice none 0 0), (by first | rfl | (simp; done) | (simp [*]; done)), (by first | rfl | (simp; done) | (simp [*]; done)), H', ⟨Nat.le_refl _⟩, ⟨by (with_reducible repeat (first | apply Kd.R_alloc | apply Kd.R_drewN | apply Kd.R_drew)); exact HO_242001.out⟩, ⟨by first | exact Kd.S_nil _ _ _ _ _ | exact Kd.N_nil _ _ _ _ _ | exact Kd.V_nil _ _ _ _ _ | exact Kd.Q_nil _ _ _ _ _ | exact Kd.R_nil _ _ _ _ _⟩, ⟨by (with_reducible repeat (first | refine blk_drewN ?_ _ | refine blk_drew ?_ | refine blk_alloc ?_ _)); exact BK232.out⟩, ⟨by (with_reducible repeat (first | refine blk_drewN ?_ _ | refine blk_drew ?_ | refine blk_alloc ?_ _)); exact BK233.out⟩, ⟨by (with_reducible repeat (first | refine blk_drewN ?_ _ | refine blk_drew ?_ | refine blk_alloc ?_ _)); exact BK234.out⟩, ⟨by (with_reducible repeat (first | refine blk_drewN ?_ _ | refine blk_drew ?_ | refine blk_alloc ?_ _)); exact BK241.out⟩, ⟨hz4 HB.out GE232.out GE233.out GE234.out GE241.out⟩⟩
    case round =>
     clear H'
     try clear c1
     try clear c2
     try clear p2
     try clear c3
     try clear c4
     try clear c6
     try clear c6b0
     try clear c6b1
     try clear c7
     try clear c7b0
     try clear c7b1
     try clear c9
     try clear c11
     try clear c11b0
     try clear c17
     try clear c18
     try clear c20
     try clear c21
     try clear c26
     try clear c36
     try clear c37
     try clear c38
     try clear c39
     try clear c41
     try clear c42
     try clear c43
     try clear c44
     try clear c46
     try clear c47
     try clear c48
     try clear c49
     try clear hcz19_0
     try clear hcz19_1
     try clear hcz19_2
     try clear hcz22_0
     try clear hcz22_1
     try clear hcz22_2
     try clear hcz22_3
     try clear hcz24_0
     try clear hcz24_1
     try clear hcz24_2
     try clear hcz24_3
     try clear hcz25_0
     try clear hcz25_1
     try clear hcz25_2
     try clear hcz37_0
     try clear hcz37_1
     try clear hcz37_2
     try clear hcz37_3
     try clear hcz39_0
     try clear hcz39_1
     try clear hcz39_2
     try clear hcz45_0
     try clear hcz45_1
     try clear hcz45_2
     try clear hcz50_0
     try clear hcz50_1
     try clear hcz50_2
     try clear hfz19_0
     try clear hfz19_1
     try clear hfz19_2
     try clear hfz22_0
     try clear hfz22_1
     try clear hfz22_2
     try clear hfz22_3
     try clear hfz24_0
     try clear hfz24_1
     try clear hfz24_2
     try clear hfz24_3
     try clear hfz25_0
     try clear hfz25_1
     try clear hfz25_2
     try clear hfz37_0
     try clear hfz37_1
     try clear hfz37_2
     try clear hfz37_3
     try clear hfz39_0
     try clear hfz39_1
     try clear hfz39_2
     try clear hfz45_0
     try clear hfz45_1
     try clear hfz45_2
     try clear hfz50_0
     try clear hfz50_1
     try clear hfz50_2
     try clear p2
     obtain ⟨x9_2, x63_2, x242002_2, u242002, rfl, rfl, HA, HK2, HO_242001, HO_242002, BK232, BK233, BK234, BK241, HB⟩ := hrel
     cases gk with
     | zero => exact absurd HA.out (by simp [upload_Receive.l0])
     | succ k2 =>
      have H := HA.out
      clear HA
      simp only [upload_Receive.l0] at H
      by_cases c51 : x63_2 < (l0_2.length : Int)
      ·
       rw [if_pos c51] at H
       have c51b0 : decide (x63_2 < (l0_2.length : Int)) = true := decide_eq_true c51
       clear c51
       replace H := it_ H
       obtain ⟨c52, H⟩ := H
       have c52b0 : decide (0 ≤ x63_2) = true := decide_eq_true c52
       clear c52
       replace H := it_ H
       obtain ⟨c53, H⟩ := H
       have c53b0 : decide (x63_2 < (l0_2.length : Int)) = true := decide_eq_true c53
       clear c53
       have HC54 := am H
       clear H
       have p252 : 0 ≤ (x63_2 : Int) := of_decide_eq_true az
       have q252 : x63_2 < (l0_2.length : Int) := of_decide_eq_true az
       obtain ⟨ad252, A252_2, c252_2, e252, hx252_0, hx252_1, hx252_2, hx252_3, hl252_2, hi252_2⟩ := at_T25 HR0_2.out x63_2 p252 q252
       cases e252
       replace hx252_0 := (HB.out.cell (World.block_lt_of_cell? w _ hx252_0)).trans hx252_0
       replace hx252_1 := (HB.out.cell (World.block_lt_of_cell? w _ hx252_1)).trans hx252_1
       replace hx252_2 := (HB.out.cell (World.block_lt_of_cell? w _ hx252_2)).trans hx252_2
       replace hx252_3 := (HB.out.cell (World.block_lt_of_cell? w _ hx252_3)).trans hx252_3
       have HR252_2 := am hi252_2
       have HC252_2 := am hl252_2
       clear hi252_2 hl252_2
       replace p252 := eq_true p252
       replace q252 := eq_true q252
       go_upto_region 19 with (first | ((with_reducible refine gate_dst (N := 11) rfl ?_); (try (refine gate_guard (by rfl) ?_; dsimp only)); refine box_event ?hg (N := 11) ?hd (cs := #[.int .i64 0, .int .i64 0, .slice none 0 0, .int .u64 0]) (t := 25) ?hr ?_; (case hd => rfl); (case hg => rfl); (case hr => exact gz); intro gb253 hg w55 hbox hb; replace HO_242001 := am (Kd.R_below (rz HO_242001.out) hb); replace HO_242002 := am (Kd.S_below (Kd.S_elderB (sz HO_242002.out) gb253 (Nat.le_of_eq hg.symm)) hb); have BK253 := am (hbox); have GW253 := am ((bs hg (hz4 HB.out GE232.out GE233.out GE234.out GE241.out) : w.heap.size ≤ gb253)); have GE253 := am ((bs hg (hz4 HB.out GE232.out GE233.out GE234.out GE241.out) : w.heap.size ≤ gb253)); replace HB := am (below_step (hz4 HB.out GE232.out GE233.out GE234.out GE241.out) hb); have NB232_253 := am ((nl hg (bz BK232.out) : gb232 ≠ gb253)); have NB253_232 := am ((ng hg (bz BK232.out) : gb253 ≠ gb232)); replace BK232 := am (blk_below (bz BK232.out) hb); have NB233_253 := am ((nl hg (bz BK233.out) : gb233 ≠ gb253)); have NB253_233 := am ((ng hg (bz BK233.out) : gb253 ≠ gb233)); replace BK233 := am (blk_below (bz BK233.out) hb); have NB234_253 := am ((nl hg (bz BK234.out) : gb234 ≠ gb253)); have NB253_234 := am ((ng hg (bz BK234.out) : gb253 ≠ gb234)); replace BK234 := am (blk_below (bz BK234.out) hb); have NB241_253 := am ((nl hg (bz BK241.out) : gb241 ≠ gb253)); have NB253_241 := am ((ng hg (bz BK241.out) : gb253 ≠ gb241)); replace BK241 := am (blk_below (bz BK241.out) hb); clear hb hbox hg; have hnb56 := NB253_232.out; have hnc56 := NB232_253.out; have hnb57 := NB253_233.out; have hnc57 := NB233_253.out; have hnb58 := NB253_234.out; have hnc58 := NB234_253.out; have hnb59 := NB253_241.out; have hnc59 := NB241_253.out; obtain ⟨hcz60_0, hcz60_1, hcz60_2, hcz60_3⟩ := cs4 BK253.out; obtain ⟨hfz60_0, hfz60_1, hfz60_2, hfz60_3⟩ := fs4 BK253.out))
       (try simp only [Act.put, List.setIfInBounds_toArray, List.set_cons_zero, List.set_cons_succ])
       go_cut [73] (fun v73 wc => ∃ (kq : Nat) (x73_53 : Bool), v73 = .bool x73_53 ∧ Aside0 (upload_Receive.j2 kq x9_2 l0_2 (l0_2.length : Int) x63_2 x73_53 a1_0 a1_1 l1_2 a1_3 a0_0 t238 x242002_2 ((rd_T25 l0_2 x63_2).f0) ((rd_T25 l0_2 x63_2).f1) ((rd_T25 l0_2 x63_2).f2) ((rd_T25 l0_2 x63_2).f3) = some (r1, r2, r3, r4)) ∧ Aside0 (kq ≤ k2) ∧ Aside0 (Kd.R (Kd.int .u8) 5 wc w.heap.size (fun _ => True) (.slice Ao32 t238.length co32) t238) ∧ Aside0 (Kd.S k25 25 wc w.heap.size (fun k_ => some k_ ≠ ((.slice Ao32 t238.length co32) : Value).ownBlock ∧ k_ ≠ gb233 ∧ k_ ≠ gb253) u242002 x242002_2) ∧ Aside0 (wc.heap[gb232]? = some (.cells #[.int .i64 a0_0, (.slice A0_1 l0_1.length c0_1), (.slice (some ad252) l0_2.length c0_2)] 34 (0, 0))) ∧ Aside0 (wc.heap[gb233]? = some (.cells #[.int .i64 a1_0, .int .i64 a1_1, (.slice A1_2 l1_2.length c1_2), .int .u64 a1_3] 25 (0, 0))) ∧ Aside0 (wc.heap[gb234]? = some (.cells #[.int .i64 0, (.slice none 0 0), (.slice none 0 0)] 34 (0, 0))) ∧ Aside0 (wc.heap[gb241]? = some (.cells #[.int .i64 a0_0, (.slice Ao32 t238.length co32), u242002] 34 (0, 0))) ∧ Aside0 (wc.heap[gb253]? = some (.cells #[.int .i64 ((rd_T25 l0_2 x63_2).f0), .int .i64 ((rd_T25 l0_2 x63_2).f1), (.slice A252_2 ((rd_T25 l0_2 x63_2).f2).length c252_2), .int .u64 ((rd_T25 l0_2 x63_2).f3)] 25 (0, 0))) ∧ Aside0 (Below w.heap.size w wc))
       case first =>
        have H := HC54.out
        clear HC54
        by_cases c61 : x9_2 = true
        ·
         subst c61
         have H1 : (upload_Receive.j2 k2 true l0_2 (l0_2.length : Int) x63_2 false a1_0 a1_1 l1_2 a1_3 a0_0 t238 x242002_2 ((rd_T25 l0_2 x63_2).f0) ((rd_T25 l0_2 x63_2).f1) ((rd_T25 l0_2 x63_2).f2) ((rd_T25 l0_2 x63_2).f3)) = some (r1, r2, r3, r4) := by rw [if_pos rfl] at H; exact H
         clear H
         have H := H1
         clear H1
         have H' := am H
         clear H
         go_wp2
         go_meet
         case rel => exact ⟨_, (false), (by first | rfl | (simp; done) | (simp [*]; done)), H', ⟨by have := HJ12.out; have := HK2.out; first | omega | exact Nat.le_refl _⟩, ⟨by (with_reducible repeat (first | apply Kd.R_alloc | apply Kd.R_drewN | apply Kd.R_drew)); exact Kd.R_mono (rfg4 HO_242001.out BK253.out) (fun _ hk => trivial)⟩, ⟨by (with_reducible repeat (first | apply Kd.S_alloc | apply Kd.S_drewN | apply Kd.S_drew)); exact Kd.S_mono (Kd.S_far (p := ⟨gb253, 3, none⟩) (Kd.S_far (p := ⟨gb253, 2, none⟩) (Kd.S_far (p := ⟨gb253, 1, none⟩) (Kd.S_far (p := ⟨gb253, 0, none⟩) (Kd.S_mono HO_242002.out (fun k_ hk => (⟨hk, hk.2⟩ : _ ∧ k_ ≠ gb253))) (fun _ hk => hk.2) (.int .i64 ((rd_T25 l0_2 x63_2).f0))) (fun _ hk => hk.2) (.int .i64 ((rd_T25 l0_2 x63_2).f1))) (fun _ hk => hk.2) (.slice A252_2 ((rd_T25 l0_2 x63_2).f2).length c252_2)) (fun _ hk => hk.2) (.int .u64 ((rd_T25 l0_2 x63_2).f3))) (fun _ hk => ⟨hk.1.1.1, ⟨hk.1.1.2, hk.1.2⟩⟩)⟩, ⟨bf1 NB232_253.out BK232.out⟩, ⟨bf1 NB233_253.out BK233.out⟩, ⟨bf1 NB234_253.out BK234.out⟩, ⟨bf1 NB241_253.out BK241.out⟩, ⟨by (with_reducible repeat (first | refine blk_drewN ?_ _ | refine blk_drew ?_ | refine blk_alloc ?_ _)); refine blk_put (cs := #[.int .i64 ((rd_T25 l0_2 x63_2).f0), .int .i64 ((rd_T25 l0_2 x63_2).f1), .slice A252_2 ((rd_T25 l0_2 x63_2).f2).length c252_2, .int .u64 0]) ?_ 3 _ rfl; (with_reducible repeat (first | refine blk_drewN ?_ _ | refine blk_drew ?_ | refine blk_alloc ?_ _)); refine blk_put (cs := #[.int .i64 ((rd_T25 l0_2 x63_2).f0), .int .i64 ((rd_T25 l0_2 x63_2).f1), .slice none 0 0, .int .u64 0]) ?_ 2 _ rfl; (with_reducible repeat (first | refine blk_drewN ?_ _ | refine blk_drew ?_ | refine blk_alloc ?_ _)); refine blk_put (cs := #[.int .i64 ((rd_T25 l0_2 x63_2).f0), .int .i64 0, .slice none 0 0, .int .u64 0]) ?_ 1 _ rfl; (with_reducible repeat (first | refine blk_drewN ?_ _ | refine blk_drew ?_ | refine blk_alloc ?_ _)); refine blk_put (cs := #[.int .i64 0, .int .i64 0, .slice none 0 0, .int .u64 0]) ?_ 0 _ rfl; (with_reducible repeat (first | refine blk_drewN ?_ _ | refine blk_drew ?_ | refine blk_alloc ?_ _)); exact BK253.out⟩, ⟨hz5 HB.out GE232.out GE233.out GE234.out GE241.out GE253.out⟩⟩
        ·
         replace c61 := Bool.eq_false_iff.mpr c61
         subst c61
         have H1 : ((upload_before.f a1_0 a1_1 l1_2 a1_3 ((rd_T25 l0_2 x63_2).f0) ((rd_T25 l0_2 x63_2).f1) ((rd_T25 l0_2 x63_2).f2) ((rd_T25 l0_2 x63_2).f3)).bind fun t254 => (upload_Receive.j2 k2 false l0_2 (l0_2.length : Int) x63_2 t254 a1_0 a1_1 l1_2 a1_3 a0_0 t238 x242002_2 ((rd_T25 l0_2 x63_2).f0) ((rd_T25 l0_2 x63_2).f1) ((rd_T25 l0_2 x63_2).f2) ((rd_T25 l0_2 x63_2).f3))) = some (r1, r2, r3, r4) := by rw [if_neg (show ¬ (false = true) by decide)] at H; exact H
         clear H
         have H := H1
         clear H1
         replace H := Option.bind_eq_some_iff.mp H
         obtain ⟨t254, A620, H⟩ := H
         replace H : (upload_Receive.j2 k2 false l0_2 (l0_2.length : Int) x63_2 t254 a1_0 a1_1 l1_2 a1_3 a0_0 t238 x242002_2 ((rd_T25 l0_2 x63_2).f0) ((rd_T25 l0_2 x63_2).f1) ((rd_T25 l0_2 x63_2).f2) ((rd_T25 l0_2 x63_2).f3)) = some (r1, r2, r3, r4) := H
         have A62 := am A620
         clear A620
         have H' := am H
         clear H
         have hnb63 := NB233_232.out
         have hnc63 := NB232_233.out
         have hnb64 := NB233_234.out
         have hnc64 := NB234_233.out
         have hnb65 := NB233_241.out
         have hnc65 := NB241_233.out
         have hnb66 := NB233_253.out
         have hnc66 := NB253_233.out
         have hcz67_0 : w55.cell? ⟨gb233, 0, none⟩ = some (.int .i64 a1_0) := (blk_cell BK233.out 0).trans rfl
         have hcz67_1 : w55.cell? ⟨gb233, 1, none⟩ = some (.int .i64 a1_1) := (blk_cell BK233.out 1).trans rfl
         have hcz67_2 : w55.cell? ⟨gb233, 2, none⟩ = some (.slice A1_2 l1_2.length c1_2) := (blk_cell BK233.out 2).trans rfl
         have hcz67_3 : w55.cell? ⟨gb233, 3, none⟩ = some (.int .u64 a1_3) := (blk_cell BK233.out 3).trans rfl
         have hfz67_0 := blk_frozen BK233.out 0
         have hfz67_1 := blk_frozen BK233.out 1
         have hfz67_2 := blk_frozen BK233.out 2
         have hfz67_3 := blk_frozen BK233.out 3
         have hnb68 := NB253_232.out
         have hnc68 := NB232_253.out
         have hnb69 := NB253_234.out
         have hnc69 := NB234_253.out
         have hnb70 := NB253_241.out
         have hnc70 := NB241_253.out
         have hcz71_0 : w55.cell? ⟨gb253, 0, none⟩ = some (.int .i64 0) := (blk_cell BK253.out 0).trans rfl
         have hcz71_1 : w55.cell? ⟨gb253, 1, none⟩ = some (.int .i64 0) := (blk_cell BK253.out 1).trans rfl
         have hcz71_2 : w55.cell? ⟨gb253, 2, none⟩ = some (.slice none 0 0) := (blk_cell BK253.out 2).trans rfl
         have hcz71_3 : w55.cell? ⟨gb253, 3, none⟩ = some (.int .u64 0) := (blk_cell BK253.out 3).trans rfl
         have hfz71_0 := blk_frozen BK253.out 0
         have hfz71_1 := blk_frozen BK253.out 1
         have hfz71_2 := blk_frozen BK253.out 2
         have hfz71_3 := blk_frozen BK253.out 3
         go_wp2_with (first | (go_at_call 41; (with_reducible refine (upload_before.calls a1_0 a1_1 _ _ l1_2 a1_3 ((rd_T25 l0_2 x63_2).f0) ((rd_T25 l0_2 x63_2).f1) _ _ ((rd_T25 l0_2 x63_2).f2) ((rd_T25 l0_2 x63_2).f3) t254 _ ?side1 ?side2 ?side3 ?side4 A62.out).mono ?_); (case side1 => exact Kd.C_below HR1_2.out (hz5 HB.out GE232.out GE233.out GE234.out GE241.out GE253.out)); (case side2 => exact HC1_2.out); (case side3 => exact Kd.C_below HR252_2.out (hz5 HB.out GE232.out GE233.out GE234.out GE241.out GE253.out)); (case side4 => exact HC252_2.out); rintro e w72 ⟨rfl, hb⟩; replace HO_242001 := am (Kd.R_below (rz (rf4 HO_242001.out BK253.out)) hb); replace HO_242002 := am (Kd.S_below (sz (Kd.S_mono (Kd.S_far (p := ⟨gb253, 3, none⟩) (Kd.S_far (p := ⟨gb253, 2, none⟩) (Kd.S_far (p := ⟨gb253, 1, none⟩) (Kd.S_far (p := ⟨gb253, 0, none⟩) (Kd.S_mono HO_242002.out (fun k_ hk => (⟨hk, hk.2⟩ : _ ∧ k_ ≠ gb253))) (fun _ hk => hk.2) (.int .i64 ((rd_T25 l0_2 x63_2).f0))) (fun _ hk => hk.2) (.int .i64 ((rd_T25 l0_2 x63_2).f1))) (fun _ hk => hk.2) (.slice A252_2 ((rd_T25 l0_2 x63_2).f2).length c252_2)) (fun _ hk => hk.2) (.int .u64 ((rd_T25 l0_2 x63_2).f3))) (fun _ h_ => h_.1))) hb); replace BK232 := am (blk_below (bf1 NB232_253.out BK232.out) hb); replace BK233 := am (blk_below (bf1 NB233_253.out BK233.out) hb); replace BK234 := am (blk_below (bf1 NB234_253.out BK234.out) hb); replace BK241 := am (blk_below (bf1 NB241_253.out BK241.out) hb); replace BK253 := am (blk_below (g := gb253) (o := .cells #[.int .i64 ((rd_T25 l0_2 x63_2).f0), .int .i64 ((rd_T25 l0_2 x63_2).f1), .slice A252_2 ((rd_T25 l0_2 x63_2).f2).length c252_2, .int .u64 ((rd_T25 l0_2 x63_2).f3)] 25 (0, 0)) (by (with_reducible repeat (first | refine blk_drewN ?_ _ | refine blk_drew ?_ | refine blk_alloc ?_ _)); refine blk_put (cs := #[.int .i64 ((rd_T25 l0_2 x63_2).f0), .int .i64 ((rd_T25 l0_2 x63_2).f1), .slice A252_2 ((rd_T25 l0_2 x63_2).f2).length c252_2, .int .u64 0]) ?_ 3 _ rfl; (with_reducible repeat (first | refine blk_drewN ?_ _ | refine blk_drew ?_ | refine blk_alloc ?_ _)); refine blk_put (cs := #[.int .i64 ((rd_T25 l0_2 x63_2).f0), .int .i64 ((rd_T25 l0_2 x63_2).f1), .slice none 0 0, .int .u64 0]) ?_ 2 _ rfl; (with_reducible repeat (first | refine blk_drewN ?_ _ | refine blk_drew ?_ | refine blk_alloc ?_ _)); refine blk_put (cs := #[.int .i64 ((rd_T25 l0_2 x63_2).f0), .int .i64 0, .slice none 0 0, .int .u64 0]) ?_ 1 _ rfl; (with_reducible repeat (first | refine blk_drewN ?_ _ | refine blk_drew ?_ | refine blk_alloc ?_ _)); refine blk_put (cs := #[.int .i64 0, .int .i64 0, .slice none 0 0, .int .u64 0]) ?_ 0 _ rfl; (with_reducible repeat (first | refine blk_drewN ?_ _ | refine blk_drew ?_ | refine blk_alloc ?_ _)); exact BK253.out) hb); replace HB := am (below_step (hz5 HB.out GE232.out GE233.out GE234.out GE241.out GE253.out) hb); (try clear hb); (try clear hb2); (try clear hk); (try clear hi)))
         go_meet
         case rel => exact ⟨_, (t254), (by first | rfl | (simp; done) | (simp [*]; done)), H', ⟨by have := HJ12.out; have := HK2.out; first | omega | exact Nat.le_refl _⟩, ⟨by (with_reducible repeat (first | apply Kd.R_alloc | apply Kd.R_drewN | apply Kd.R_drew)); exact HO_242001.out⟩, ⟨by (with_reducible repeat (first | apply Kd.S_alloc | apply Kd.S_drewN | apply Kd.S_drew)); exact Kd.S_mono HO_242002.out (fun _ hk => ⟨hk.1.1, ⟨hk.1.2, hk.2⟩⟩)⟩, ⟨by (with_reducible repeat (first | refine blk_drewN ?_ _ | refine blk_drew ?_ | refine blk_alloc ?_ _)); exact BK232.out⟩, ⟨by (with_reducible repeat (first | refine blk_drewN ?_ _ | refine blk_drew ?_ | refine blk_alloc ?_ _)); exact BK233.out⟩, ⟨by (with_reducible repeat (first | refine blk_drewN ?_ _ | refine blk_drew ?_ | refine blk_alloc ?_ _)); exact BK234.out⟩, ⟨by (with_reducible repeat (first | refine blk_drewN ?_ _ | refine blk_drew ?_ | refine blk_alloc ?_ _)); exact BK241.out⟩, ⟨by (with_reducible repeat (first | refine blk_drewN ?_ _ | refine blk_drew ?_ | refine blk_alloc ?_ _)); exact BK253.out⟩, ⟨hz5 HB.out GE232.out GE233.out GE234.out GE241.out GE253.out⟩⟩
       case rest =>
        clear HC54
        try clear c1
        try clear c2
        try clear p2
        try clear q2
        try clear hx2
        try clear c3
        try clear c4
        try clear c5
        try clear c6
        try clear c6b0
        try clear c6b1
        try clear c7
        try clear c7b0
        try clear c7b1
        try clear c9
        try clear c11
        try clear c11b0
        try clear c17
        try clear c18
        try clear c20
        try clear c21
        try clear c25
        try clear p25
        try clear q25
        try clear hx25
        try clear c26
        try clear c36
        try clear c37
        try clear c38
        try clear c39
        try clear c41
        try clear c42
        try clear c43
        try clear c44
        try clear c46
        try clear c47
        try clear c48
        try clear c49
        try clear c51
        try clear c51b0
        try clear c52
        try clear c52b0
        try clear c53
        try clear c53b0
        try clear c56
        try clear c57
        try clear c58
        try clear c59
        try clear c61
        try clear c63
        try clear c64
        try clear c65
        try clear c66
        try clear c68
        try clear c69
        try clear c70
        try clear hcz19_0
        try clear hcz19_1
        try clear hcz19_2
        try clear hcz22_0
        try clear hcz22_1
        try clear hcz22_2
        try clear hcz22_3
        try clear hcz24_0
        try clear hcz24_1
        try clear hcz24_2
        try clear hcz24_3
        try clear hcz25_0
        try clear hcz25_1
        try clear hcz25_2
        try clear hcz37_0
        try clear hcz37_1
        try clear hcz37_2
        try clear hcz37_3
        try clear hcz39_0
        try clear hcz39_1
        try clear hcz39_2
        try clear hcz45_0
        try clear hcz45_1
        try clear hcz45_2
        try clear hcz50_0
        try clear hcz50_1
        try clear hcz50_2
        try clear hcz60_0
        try clear hcz60_1
        try clear hcz60_2
        try clear hcz60_3
        try clear hcz67_0
        try clear hcz67_1
        try clear hcz67_2
        try clear hcz67_3
        try clear hcz71_0
        try clear hcz71_1
        try clear hcz71_2
        try clear hcz71_3
        try clear hfz19_0
        try clear hfz19_1
        try clear hfz19_2
        try clear hfz22_0
        try clear hfz22_1
        try clear hfz22_2
        try clear hfz22_3
        try clear hfz24_0
        try clear hfz24_1
        try clear hfz24_2
        try clear hfz24_3
        try clear hfz25_0
        try clear hfz25_1
        try clear hfz25_2
        try clear hfz37_0
        try clear hfz37_1
        try clear hfz37_2
        try clear hfz37_3
        try clear hfz39_0
        try clear hfz39_1
        try clear hfz39_2
        try clear hfz45_0
        try clear hfz45_1
        try clear hfz45_2
        try clear hfz50_0
        try clear hfz50_1
        try clear hfz50_2
        try clear hfz60_0
        try clear hfz60_1
        try clear hfz60_2
        try clear hfz60_3
        try clear hfz67_0
        try clear hfz67_1
        try clear hfz67_2
        try clear hfz67_3
        try clear hfz71_0
        try clear hfz71_1
        try clear hfz71_2
        try clear hfz71_3
        try clear hx252_0
        try clear hx252_1
        try clear hx252_2
        try clear hx252_3
        try clear p2
        try clear p252
        try clear q252
        obtain ⟨kq, x73_53, rfl, HA, HJ53, HO_242001, HO_242002, BK232, BK233, BK234, BK241, BK253, HB⟩ := hcut
        cases kq with
        | zero => exact absurd HA.out (by simp [upload_Receive.j2])
        | succ kj53 =>
         have H := HA.out
         clear HA
         simp only [upload_Receive.j2] at H
         by_cases c73 : x73_53 = true
         ·
          subst c73
          have H1 : ((upload_copied.f a1_0 a1_1 l1_2 a1_3).bind fun bt255 => (if x242002_2.length < 2932031007402 then ((some (x242002_2 ++ [(⟨bt255.1, bt255.2.1, bt255.2.2.1, bt255.2.2.2⟩ : S25)] : List (S25))).bind fun y261 => ((upload_copied.f ((rd_T25 l0_2 x63_2).f0) ((rd_T25 l0_2 x63_2).f1) ((rd_T25 l0_2 x63_2).f2) ((rd_T25 l0_2 x63_2).f3)).bind fun bt264 => (if y261.length < 2932031007402 then (upload_Receive.l0 kj53 true l0_2 (l0_2.length : Int) (wrap64 (x63_2 + 1)) a1_0 a1_1 l1_2 a1_3 a0_0 t238 (y261 ++ [(⟨bt264.1, bt264.2.1, bt264.2.2.1, bt264.2.2.2⟩ : S25)])) else (none)))) else (none))) = some (r1, r2, r3, r4) := by rw [if_pos rfl] at H; exact H
          clear H
          have H := H1
          clear H1
          replace H := Option.bind_eq_some_iff.mp H
          obtain ⟨⟨t255, t256, t257, t260⟩, A740, H⟩ := H
          replace H : (if x242002_2.length < 2932031007402 then ((some (x242002_2 ++ [(⟨t255, t256, t257, t260⟩ : S25)] : List (S25))).bind fun y261 => ((upload_copied.f ((rd_T25 l0_2 x63_2).f0) ((rd_T25 l0_2 x63_2).f1) ((rd_T25 l0_2 x63_2).f2) ((rd_T25 l0_2 x63_2).f3)).bind fun bt264 => (if y261.length < 2932031007402 then (upload_Receive.l0 kj53 true l0_2 (l0_2.length : Int) (wrap64 (x63_2 + 1)) a1_0 a1_1 l1_2 a1_3 a0_0 t238 (y261 ++ [(⟨bt264.1, bt264.2.1, bt264.2.2.1, bt264.2.2.2⟩ : S25)])) else (none)))) else (none)) = some (r1, r2, r3, r4) := H
          have A74 := am A740
          clear A740
          replace H := it_ H
          obtain ⟨c75, H⟩ := H
          have LMc75 := am c75
          clear c75
          obtain ⟨y261, hy261⟩ : ∃ y_ : List (S25), y_ = (x242002_2 ++ [(⟨t255, t256, t257, t260⟩ : S25)]) := ⟨_, rfl⟩
          replace H : ((upload_copied.f ((rd_T25 l0_2 x63_2).f0) ((rd_T25 l0_2 x63_2).f1) ((rd_T25 l0_2 x63_2).f2) ((rd_T25 l0_2 x63_2).f3)).bind fun bt264 => (if y261.length < 2932031007402 then (upload_Receive.l0 kj53 true l0_2 (l0_2.length : Int) (wrap64 (x63_2 + 1)) a1_0 a1_1 l1_2 a1_3 a0_0 t238 (y261 ++ [(⟨bt264.1, bt264.2.1, bt264.2.2.1, bt264.2.2.2⟩ : S25)])) else (none))) = some (r1, r2, r3, r4) := by first | (rw [hy261]; with_reducible exact H) | (have H2_ := (Option.bind_some _ _).symm.trans H; rw [hy261]; with_reducible exact H2_) | (have H2_ := (Option.bind_some _ _).symm.trans H; with_reducible exact H2_) | with_reducible exact H | (rw [hy261]; exact H) | exact H
          have Ny261 := am hy261
          clear hy261
          replace H := Option.bind_eq_some_iff.mp H
          obtain ⟨⟨t264, t265, t266, t269⟩, A760, H⟩ := H
          replace H : (if y261.length < 2932031007402 then (upload_Receive.l0 kj53 true l0_2 (l0_2.length : Int) (wrap64 (x63_2 + 1)) a1_0 a1_1 l1_2 a1_3 a0_0 t238 (y261 ++ [(⟨t264, t265, t266, t269⟩ : S25)])) else (none)) = some (r1, r2, r3, r4) := H
          have A76 := am A760
          clear A760
          replace H := it_ H
          obtain ⟨c77, H⟩ := H
          have LMc77 := am c77
          clear c77
          obtain ⟨y270, hy270⟩ : ∃ y_ : List (S25), y_ = (y261 ++ [(⟨t264, t265, t266, t269⟩ : S25)]) := ⟨_, rfl⟩
          replace H : (upload_Receive.l0 kj53 true l0_2 (l0_2.length : Int) (wrap64 (x63_2 + 1)) a1_0 a1_1 l1_2 a1_3 a0_0 t238 y270) = some (r1, r2, r3, r4) := by first | (rw [hy270]; with_reducible exact H) | (have H2_ := (Option.bind_some _ _).symm.trans H; rw [hy270]; with_reducible exact H2_) | (have H2_ := (Option.bind_some _ _).symm.trans H; with_reducible exact H2_) | with_reducible exact H | (rw [hy270]; exact H) | exact H
          have Ny270 := am hy270
          clear hy270
          have H' := am H
          clear H
          try go_wp2
          replace HO_242001 := am (Kd.R_drew HO_242001.out)
          replace HO_242002 := am (Kd.S_drew HO_242002.out)
          replace BK232 := am (blk_drew BK232.out)
          replace BK233 := am (blk_drew BK233.out)
          replace BK234 := am (blk_drew BK234.out)
          replace BK241 := am (blk_drew BK241.out)
          replace BK253 := am (blk_drew BK253.out)
          replace HB := am (below_drew1 HB.out)
          refine start_ (n := 9) (S := fun w' => w'.cell? ⟨gb241, 0, none⟩ = some (.int .i64 a0_0) ∧ w'.cell? ⟨gb241, 1, none⟩ = some (.slice Ao32 t238.length co32) ∧ w'.cell? ⟨gb241, 2, none⟩ = some (u242002) ∧ w'.cell? ⟨gb233, 0, none⟩ = some (.int .i64 a1_0) ∧ w'.cell? ⟨gb233, 1, none⟩ = some (.int .i64 a1_1) ∧ w'.cell? ⟨gb233, 2, none⟩ = some (.slice A1_2 l1_2.length c1_2) ∧ w'.cell? ⟨gb233, 3, none⟩ = some (.int .u64 a1_3)) (ds := [7]) #[false, false, false, false, false, false, false, false, false] (by kernel_rfl) rfl rfl ⟨(blk_cell BK241.out 0).trans rfl, (blk_cell BK241.out 1).trans rfl, (blk_cell BK241.out 2).trans rfl, (blk_cell BK233.out 0).trans rfl, (blk_cell BK233.out 1).trans rfl, (blk_cell BK233.out 2).trans rfl, (blk_cell BK233.out 3).trans rfl⟩ (fun hHeld => ?_); refine with_tabW upload_Receive.tab20 upload_Receive.bits20 (fun HT_ HW_ => ?_)
          generalize wc.drew = w78 at HO_242001 HO_242002 BK232 BK233 BK234 BK241 BK253 HB hHeld ⊢
          refine pz 0 74 HT_.out ?_
          refine tz7 1 75 HT_.out HW_.out hHeld ?_
          refine tz7 2 76 HT_.out HW_.out hHeld ?_
          refine oz 3 77 HT_.out (fun K hK => ?_)
          refine goes_ Try.func42 (by kernel_rfl) rfl #[.agg #[.int .i64 a1_0, .int .i64 a1_1, .slice A1_2 l1_2.length c1_2, .int .u64 a1_3]] (by rfl) rfl rfl lz ?_
          with_reducible refine (upload_copied.calls a1_0 a1_1 _ _ l1_2 a1_3 t255 t256 t257 t260 _ ?side1 ?side2 A74.out).mono ?_
          (case side1 => exact cz (Kd.C_below HR1_2.out HB.out))
          (case side2 => exact HC1_2.out)
          rintro e w79 ⟨v258, rfl, ho0, hb⟩
          refine ⟨_, rfl, ?_⟩
          replace HO_242002 := am (Kd.S_elder' (sz HO_242002.out) (Kd.R_base ho0) hb)
          have HO259 := am (Kd.R_lower (Kd.R_new' ho0 (Kd.R_lt (rz HO_242001.out))) (below_size (hz5 HB.out GE232.out GE233.out GE234.out GE241.out GE253.out)))
          replace HO_242001 := am (Kd.R_elder' (rz HO_242001.out) (Kd.R_base ho0) hb)
          replace BK232 := am (blk_below (bz BK232.out) hb)
          replace BK233 := am (blk_below (bz BK233.out) hb)
          replace BK234 := am (blk_below (bz BK234.out) hb)
          replace BK241 := am (blk_below (bz BK241.out) hb)
          replace BK253 := am (blk_below (bz BK253.out) hb)
          replace HB := am (below_step (hz5 HB.out GE232.out GE233.out GE234.out GE241.out GE253.out) hb)
          (try clear hb)
          (try clear hb2)
          (try clear hk)
          (try clear hi)
          (try clear ho0)
          obtain ⟨Ao81, co81, eo81⟩ := Kd.R_slice HO259.out
          (first | subst eo81 | (injection eo81 with f1_ f2_ f3_; have f4_ := f1_.symm; have f5_ := f3_.symm; clear f1_ f2_ f3_; subst f4_; subst f5_))
          refine hK.out _ _ ⟨(blk_cell BK241.out 0).trans rfl, (blk_cell BK241.out 1).trans rfl, (blk_cell BK241.out 2).trans rfl, (blk_cell BK233.out 0).trans rfl, (blk_cell BK233.out 1).trans rfl, (blk_cell BK233.out 2).trans rfl, (blk_cell BK233.out 3).trans rfl⟩ (fun hHeld => ?_)
          clear hK K
          refine norm_ (a' := ?_) ?_ ?_
          rotate_left
          ·
           show Act.put _ (some 77) _ = _
           simp only [Act.put, List.setIfInBounds_toArray, List.set_cons_zero, List.set_cons_succ, i64_w, i32_w]
           rfl
          refine oz 4 78 HT_.out (fun K hK => ?_)
          refine value_ (w1 := ?_) (v := ?_) (by rfl) rfl ?_ ?_
          rotate_left 2
          ·
           go_simp
           constructor
           ·
            rfl
           ·
            rfl
          refine hK.out _ _ ⟨(blk_cell (blk_alloc BK241.out _) 0).trans rfl, (blk_cell (blk_alloc BK241.out _) 1).trans rfl, (blk_cell (blk_alloc BK241.out _) 2).trans rfl, (blk_cell (blk_alloc BK233.out _) 0).trans rfl, (blk_cell (blk_alloc BK233.out _) 1).trans rfl, (blk_cell (blk_alloc BK233.out _) 2).trans rfl, (blk_cell (blk_alloc BK233.out _) 3).trans rfl⟩ (fun hHeld => ?_)
          clear hK K
          refine norm_ (a' := ?_) ?_ ?_
          rotate_left
          ·
           show Act.put _ (some 78) _ = _
           simp only [Act.put, List.setIfInBounds_toArray, List.set_cons_zero, List.set_cons_succ, i64_w, i32_w]
           rfl
          refine oz 5 79 HT_.out (fun K hK => ?_)
          refine Kd.S_append_step k25 (w0 := w) w.heap.size (by rfl) (.tmp 75) (.tmp 78) 30 25 (.agg #[(.int .i64 0), (.int .i64 0), (.slice none 0 0), (.int .u64 0)]) 48 rfl Try.underlying30 info25 rfl (by decide) (by omega) u242002 x242002_2 (⟨t255, t256, t257, t260⟩ : S25) [.int .i64 t255, .int .i64 t256, .slice Ao81 t257.length co81, .int .u64 t260] (fun k_ => some k_ ≠ (.slice Ao32 t238.length co32 : Value).ownBlock ∧ k_ ≠ gb233 ∧ k_ ≠ gb253) (fun k_ => some k_ = (.slice Ao81 t257.length co81 : Value).ownBlock) rfl rfl ?aP (fun k_ hk_ => ((Kd.R_mono (ok' := fun k_ => ((fun k_ => some k_ ≠ (.slice Ao32 t238.length co32 : Value).ownBlock ∧ k_ ≠ gb233 ∧ k_ ≠ gb253)) k_ ∧ some k_ ≠ (u242002 : Value).ownBlock) (Kd.R_types (Kd.R_types (Kd.R_apart' (HO259.out) (Kd.S_typed HO_242002.out) (by decide)) BK233.out (by decide)) BK253.out (by decide)) (fun k_ hk => ⟨⟨hk.1.1.1.2, ⟨hk.1.2, hk.2⟩⟩, hk.1.1.2⟩))).1 k_ hk_.symm) ?aF ?aO ?aB ?aS ?aL ?_
          (case aP => exact k25_mkM _ _ _ (⟨t255, t256, t257, t260⟩ : S25) (Kd.R_mono (Kd.R_tight rfl (Kd.R_mono (ok' := fun k_ => ((fun k_ => some k_ ≠ (.slice Ao32 t238.length co32 : Value).ownBlock ∧ k_ ≠ gb233 ∧ k_ ≠ gb253)) k_ ∧ some k_ ≠ (u242002 : Value).ownBlock) (Kd.R_types (Kd.R_types (Kd.R_apart' (HO259.out) (Kd.S_typed HO_242002.out) (by decide)) BK233.out (by decide)) BK253.out (by decide)) (fun k_ hk => ⟨⟨hk.1.1.1.2, ⟨hk.1.2, hk.2⟩⟩, hk.1.1.2⟩))) (fun _ h_ => h_)))
          (case aB => exact (hz5 HB.out GE232.out GE233.out GE234.out GE241.out GE253.out))
          (case aF => exact (fun k_ hk => ⟨Kd.fresh' (Kd.R_lt (rz HO_242001.out)) k_ hk, Kd.freshB (g := gb233) (o := .cells #[.int .i64 a1_0, .int .i64 a1_1, .slice A1_2 l1_2.length c1_2, .int .u64 a1_3] 25 (0, 0)) (bz BK233.out) k_ hk, Kd.freshB (g := gb253) (o := .cells #[.int .i64 ((rd_T25 l0_2 x63_2).f0), .int .i64 ((rd_T25 l0_2 x63_2).f1), .slice A252_2 ((rd_T25 l0_2 x63_2).f2).length c252_2, .int .u64 ((rd_T25 l0_2 x63_2).f3)] 25 (0, 0)) (bz BK253.out) k_ hk⟩))
          (case aO => exact (sz (Kd.S_mono HO_242002.out (fun k_ hk => ⟨⟨hk.1.1, ⟨hk.1.2.1, hk.1.2.2⟩⟩, fun e_ => hk.2 e_⟩))))
          (case aS => exact (below_size (hz5 HB.out GE232.out GE233.out GE234.out GE241.out GE253.out)))
          (case aL => have := LMc75.out; omega)
          intro v262 w80 ho hb hg hat
          rw [← Ny261.out] at ho
          replace HO_242001 := am (Kd.R_over' (rz HO_242001.out) (Kd.S_typed (sz HO_242002.out)) (by decide) hg)
          replace BK232 := am (blk_grown (bz BK232.out) hg (Kd.S_ne HO_242002.out BK232.out (by decide)))
          replace BK233 := am (blk_grown (bz BK233.out) hg (Kd.S_away HO_242002.out (fun _ hk => hk.1.2.1)))
          replace BK234 := am (blk_grown (bz BK234.out) hg (Kd.S_ne HO_242002.out BK234.out (by decide)))
          replace BK241 := am (blk_grown (bz BK241.out) hg (Kd.S_ne HO_242002.out BK241.out (by decide)))
          replace BK253 := am (blk_grown (bz BK253.out) hg (Kd.S_away HO_242002.out (fun _ hk => hk.1.2.2)))
          replace HB := am (hb)
          have HO263 := am (ho)
          clear HO_242002 HO259
          clear ho hb hg hat
          obtain ⟨Ao82, co82, eo82⟩ := Kd.S_slice HO263.out
          (first | subst eo82 | (injection eo82 with f1_ f2_ f3_; have f4_ := f1_.symm; have f5_ := f3_.symm; clear f1_ f2_ f3_; subst f4_; subst f5_))
          refine hK.out _ _ ⟨(blk_cell BK241.out 0).trans rfl, (blk_cell BK241.out 1).trans rfl, (blk_cell BK241.out 2).trans rfl, (blk_cell BK233.out 0).trans rfl, (blk_cell BK233.out 1).trans rfl, (blk_cell BK233.out 2).trans rfl, (blk_cell BK233.out 3).trans rfl⟩ (fun hHeld => ?_)
          clear hK K
          refine norm_ (a' := ?_) ?_ ?_
          rotate_left
          ·
           show Act.put _ (some 79) _ = _
           simp only [Act.put, List.setIfInBounds_toArray, List.set_cons_zero, List.set_cons_succ, i64_w, i32_w]
           rfl
          refine pz 6 80 HT_.out ?_
          refine last_ (i := 7) (N := none) #[true, true, true, true, true, true, true, true, false] rfl rfl (one_of HT_.out (by kernel_rfl)) (by decide) (fun K hK => ?_)
          have hs83 : w80.cell? ⟨gb241, 2, none⟩ = some (u242002) := (blk_cell BK241.out 2).trans rfl
          have hfs83 := blk_frozen BK241.out 2
          have hns83_0 := NB232_241.out
          have hns83_1 := NB233_241.out
          have hns83_2 := NB234_241.out
          have hns83_4 := NB253_241.out
          have hms83_0 := NB241_232.out
          have hms83_1 := NB241_233.out
          have hms83_2 := NB241_234.out
          have hms83_4 := NB241_253.out
          refine skip_ (w1 := ?_) (by rfl) rfl ?_ ?_
          rotate_left
          ·
           go_simp
           rfl
          refine hK.out _ _ ?_
          clear hK K
          refine pz 8 9 HT_.out ?_
          refine done_ (done_of HT_.out (by kernel_rfl)) ?_
          try go_wp2
          have n0_ : Aside0 (Kd.R (Kd.int .u8) 5 (w80.setCell ⟨gb241, 2, none⟩ (.slice Ao82 y261.length co82)) w.heap.size (fun _ => True) (.slice Ao32 t238.length co32) t238) := ⟨by (with_reducible repeat (first | apply Kd.R_alloc | apply Kd.R_drewN | apply Kd.R_drew)); exact Kd.R_mono (Kd.R_far (p := ⟨gb241, 2, none⟩) (Kd.R_types HO_242001.out BK241.out (by decide)) (fun _ hk => hk.2) (.slice Ao82 y261.length co82)) (fun _ hk => trivial)⟩
          have n1_ : Aside0 (Kd.S k25 25 (w80.setCell ⟨gb241, 2, none⟩ (.slice Ao82 y261.length co82)) w.heap.size (fun k_ => some k_ ≠ (.slice Ao32 t238.length co32 : Value).ownBlock ∧ k_ ≠ gb233 ∧ k_ ≠ gb253) (.slice Ao82 y261.length co82) y261) := ⟨by (with_reducible repeat (first | apply Kd.S_alloc | apply Kd.S_drewN | apply Kd.S_drew)); exact Kd.S_mono (Kd.S_far (p := ⟨gb241, 2, none⟩) (Kd.S_types HO263.out BK241.out (by decide)) (fun _ hk => hk.2) (.slice Ao82 y261.length co82)) (fun _ hk => ⟨hk.1.1, ⟨hk.1.2.1, hk.1.2.2⟩⟩)⟩
          have n2_ : Aside0 ((w80.setCell ⟨gb241, 2, none⟩ (.slice Ao82 y261.length co82)).heap[gb232]? = some (.cells #[.int .i64 a0_0, .slice A0_1 l0_1.length c0_1, .slice (some ad252) l0_2.length c0_2] 34 (0, 0))) := ⟨bf1 NB232_241.out BK232.out⟩
          have n3_ : Aside0 ((w80.setCell ⟨gb241, 2, none⟩ (.slice Ao82 y261.length co82)).heap[gb233]? = some (.cells #[.int .i64 a1_0, .int .i64 a1_1, .slice A1_2 l1_2.length c1_2, .int .u64 a1_3] 25 (0, 0))) := ⟨bf1 NB233_241.out BK233.out⟩
          have n4_ : Aside0 ((w80.setCell ⟨gb241, 2, none⟩ (.slice Ao82 y261.length co82)).heap[gb234]? = some (.cells #[.int .i64 0, .slice none 0 0, .slice none 0 0] 34 (0, 0))) := ⟨bf1 NB234_241.out BK234.out⟩
          have n5_ : Aside0 ((w80.setCell ⟨gb241, 2, none⟩ (.slice Ao82 y261.length co82)).heap[gb241]? = some (.cells #[.int .i64 a0_0, .slice Ao32 t238.length co32, .slice Ao82 y261.length co82] 34 (0, 0))) := ⟨by (with_reducible repeat (first | refine blk_drewN ?_ _ | refine blk_drew ?_ | refine blk_alloc ?_ _)); refine blk_put (cs := #[.int .i64 a0_0, .slice Ao32 t238.length co32, u242002]) ?_ 2 _ rfl; (with_reducible repeat (first | refine blk_drewN ?_ _ | refine blk_drew ?_ | refine blk_alloc ?_ _)); exact BK241.out⟩
          have n6_ : Aside0 ((w80.setCell ⟨gb241, 2, none⟩ (.slice Ao82 y261.length co82)).heap[gb253]? = some (.cells #[.int .i64 ((rd_T25 l0_2 x63_2).f0), .int .i64 ((rd_T25 l0_2 x63_2).f1), .slice A252_2 ((rd_T25 l0_2 x63_2).f2).length c252_2, .int .u64 ((rd_T25 l0_2 x63_2).f3)] 25 (0, 0))) := ⟨bf1 NB253_241.out BK253.out⟩
          have n7_ : Aside0 (Below w.heap.size w (w80.setCell ⟨gb241, 2, none⟩ (.slice Ao82 y261.length co82))) := ⟨hz5 HB.out GE232.out GE233.out GE234.out GE241.out GE253.out⟩
          (try clear HO_242001)
          (try clear HO263)
          (try clear BK232)
          (try clear BK233)
          (try clear BK234)
          (try clear BK241)
          (try clear BK253)
          (try clear HB)
          generalize (w80.setCell ⟨gb241, 2, none⟩ (.slice Ao82 y261.length co82)) = w84 at n0_ n1_ n2_ n3_ n4_ n5_ n6_ n7_ ⊢
          have HO_242001 := n0_
          have HO263 := n1_
          have BK232 := n2_
          have BK233 := n3_
          have BK234 := n4_
          have BK241 := n5_
          have BK253 := n6_
          have HB := n7_
          clear n0_ n1_ n2_ n3_ n4_ n5_ n6_ n7_
          replace HO_242001 := am (Kd.R_drew HO_242001.out)
          replace HO263 := am (Kd.S_drew HO263.out)
          replace BK232 := am (blk_drew BK232.out)
          replace BK233 := am (blk_drew BK233.out)
          replace BK234 := am (blk_drew BK234.out)
          replace BK241 := am (blk_drew BK241.out)
          replace BK253 := am (blk_drew BK253.out)
          replace HB := am (below_drew1 HB.out)
          refine start_ (n := 8) (S := fun w' => w'.cell? ⟨gb241, 0, none⟩ = some (.int .i64 a0_0) ∧ w'.cell? ⟨gb241, 1, none⟩ = some (.slice Ao32 t238.length co32) ∧ w'.cell? ⟨gb241, 2, none⟩ = some (.slice Ao82 y261.length co82) ∧ w'.cell? ⟨gb253, 0, none⟩ = some (.int .i64 ((rd_T25 l0_2 x63_2).f0)) ∧ w'.cell? ⟨gb253, 1, none⟩ = some (.int .i64 ((rd_T25 l0_2 x63_2).f1)) ∧ w'.cell? ⟨gb253, 2, none⟩ = some (.slice A252_2 ((rd_T25 l0_2 x63_2).f2).length c252_2) ∧ w'.cell? ⟨gb253, 3, none⟩ = some (.int .u64 ((rd_T25 l0_2 x63_2).f3))) (ds := [7]) #[false, false, false, false, false, false, false, false] (by kernel_rfl) rfl rfl ⟨(blk_cell BK241.out 0).trans rfl, (blk_cell BK241.out 1).trans rfl, (blk_cell BK241.out 2).trans rfl, (blk_cell BK253.out 0).trans rfl, (blk_cell BK253.out 1).trans rfl, (blk_cell BK253.out 2).trans rfl, (blk_cell BK253.out 3).trans rfl⟩ (fun hHeld => ?_); refine with_tabW upload_Receive.tab21 upload_Receive.bits21 (fun HT_ HW_ => ?_)
          generalize w84.drew = w85 at HO_242001 HO263 BK232 BK233 BK234 BK241 BK253 HB hHeld ⊢
          refine pz 0 81 HT_.out ?_
          refine tz7 1 82 HT_.out HW_.out hHeld ?_
          refine tz7 2 83 HT_.out HW_.out hHeld ?_
          refine oz 3 84 HT_.out (fun K hK => ?_)
          refine goes_ Try.func42 (by kernel_rfl) rfl #[.agg #[.int .i64 ((rd_T25 l0_2 x63_2).f0), .int .i64 ((rd_T25 l0_2 x63_2).f1), .slice A252_2 ((rd_T25 l0_2 x63_2).f2).length c252_2, .int .u64 ((rd_T25 l0_2 x63_2).f3)]] (by rfl) rfl rfl lz ?_
          with_reducible refine (upload_copied.calls ((rd_T25 l0_2 x63_2).f0) ((rd_T25 l0_2 x63_2).f1) _ _ ((rd_T25 l0_2 x63_2).f2) ((rd_T25 l0_2 x63_2).f3) t264 t265 t266 t269 _ ?side1 ?side2 A76.out).mono ?_
          (case side1 => exact cz (Kd.C_below HR252_2.out HB.out))
          (case side2 => exact HC252_2.out)
          rintro e w86 ⟨v267, rfl, ho0, hb⟩
          refine ⟨_, rfl, ?_⟩
          replace HO263 := am (Kd.S_elder' (sz HO263.out) (Kd.R_base ho0) hb)
          have HO268 := am (Kd.R_lower (Kd.R_new' ho0 (Kd.R_lt (rz HO_242001.out))) (below_size (hz5 HB.out GE232.out GE233.out GE234.out GE241.out GE253.out)))
          replace HO_242001 := am (Kd.R_elder' (rz HO_242001.out) (Kd.R_base ho0) hb)
          replace BK232 := am (blk_below (bz BK232.out) hb)
          replace BK233 := am (blk_below (bz BK233.out) hb)
          replace BK234 := am (blk_below (bz BK234.out) hb)
          replace BK241 := am (blk_below (bz BK241.out) hb)
          replace BK253 := am (blk_below (bz BK253.out) hb)
          replace HB := am (below_step (hz5 HB.out GE232.out GE233.out GE234.out GE241.out GE253.out) hb)
          (try clear hb)
          (try clear hb2)
          (try clear hk)
          (try clear hi)
          (try clear ho0)
          obtain ⟨Ao88, co88, eo88⟩ := Kd.R_slice HO268.out
          (first | subst eo88 | (injection eo88 with f1_ f2_ f3_; have f4_ := f1_.symm; have f5_ := f3_.symm; clear f1_ f2_ f3_; subst f4_; subst f5_))
          refine hK.out _ _ ⟨(blk_cell BK241.out 0).trans rfl, (blk_cell BK241.out 1).trans rfl, (blk_cell BK241.out 2).trans rfl, (blk_cell BK253.out 0).trans rfl, (blk_cell BK253.out 1).trans rfl, (blk_cell BK253.out 2).trans rfl, (blk_cell BK253.out 3).trans rfl⟩ (fun hHeld => ?_)
          clear hK K
          refine norm_ (a' := ?_) ?_ ?_
          rotate_left
          ·
           show Act.put _ (some 84) _ = _
           simp only [Act.put, List.setIfInBounds_toArray, List.set_cons_zero, List.set_cons_succ, i64_w, i32_w]
           rfl
          refine oz 4 85 HT_.out (fun K hK => ?_)
          refine value_ (w1 := ?_) (v := ?_) (by rfl) rfl ?_ ?_
          rotate_left 2
          ·
           go_simp
           constructor
           ·
            rfl
           ·
            rfl
          refine hK.out _ _ ⟨(blk_cell (blk_alloc BK241.out _) 0).trans rfl, (blk_cell (blk_alloc BK241.out _) 1).trans rfl, (blk_cell (blk_alloc BK241.out _) 2).trans rfl, (blk_cell (blk_alloc BK253.out _) 0).trans rfl, (blk_cell (blk_alloc BK253.out _) 1).trans rfl, (blk_cell (blk_alloc BK253.out _) 2).trans rfl, (blk_cell (blk_alloc BK253.out _) 3).trans rfl⟩ (fun hHeld => ?_)
          clear hK K
          refine norm_ (a' := ?_) ?_ ?_
          rotate_left
          ·
           show Act.put _ (some 85) _ = _
           simp only [Act.put, List.setIfInBounds_toArray, List.set_cons_zero, List.set_cons_succ, i64_w, i32_w]
           rfl
          refine oz 5 86 HT_.out (fun K hK => ?_)
          refine Kd.S_append_step k25 (w0 := w) w.heap.size (by rfl) (.tmp 82) (.tmp 85) 30 25 (.agg #[(.int .i64 0), (.int .i64 0), (.slice none 0 0), (.int .u64 0)]) 48 rfl Try.underlying30 info25 rfl (by decide) (by omega) (.slice Ao82 y261.length co82) y261 (⟨t264, t265, t266, t269⟩ : S25) [.int .i64 t264, .int .i64 t265, .slice Ao88 t266.length co88, .int .u64 t269] (fun k_ => some k_ ≠ (.slice Ao32 t238.length co32 : Value).ownBlock ∧ k_ ≠ gb233 ∧ k_ ≠ gb253) (fun k_ => some k_ = (.slice Ao88 t266.length co88 : Value).ownBlock) rfl rfl ?aP (fun k_ hk_ => ((Kd.R_mono (ok' := fun k_ => ((fun k_ => some k_ ≠ (.slice Ao32 t238.length co32 : Value).ownBlock ∧ k_ ≠ gb233 ∧ k_ ≠ gb253)) k_ ∧ some k_ ≠ (.slice Ao82 y261.length co82 : Value).ownBlock) (Kd.R_types (Kd.R_types (Kd.R_apart' (HO268.out) (Kd.S_typed HO263.out) (by decide)) BK233.out (by decide)) BK253.out (by decide)) (fun k_ hk => ⟨⟨hk.1.1.1.2, ⟨hk.1.2, hk.2⟩⟩, hk.1.1.2⟩))).1 k_ hk_.symm) ?aF ?aO ?aB ?aS ?aL ?_
          (case aP => exact k25_mkM _ _ _ (⟨t264, t265, t266, t269⟩ : S25) (Kd.R_mono (Kd.R_tight rfl (Kd.R_mono (ok' := fun k_ => ((fun k_ => some k_ ≠ (.slice Ao32 t238.length co32 : Value).ownBlock ∧ k_ ≠ gb233 ∧ k_ ≠ gb253)) k_ ∧ some k_ ≠ (.slice Ao82 y261.length co82 : Value).ownBlock) (Kd.R_types (Kd.R_types (Kd.R_apart' (HO268.out) (Kd.S_typed HO263.out) (by decide)) BK233.out (by decide)) BK253.out (by decide)) (fun k_ hk => ⟨⟨hk.1.1.1.2, ⟨hk.1.2, hk.2⟩⟩, hk.1.1.2⟩))) (fun _ h_ => h_)))
          (case aB => exact (hz5 HB.out GE232.out GE233.out GE234.out GE241.out GE253.out))
          (case aF => exact (fun k_ hk => ⟨Kd.fresh' (Kd.R_lt (rz HO_242001.out)) k_ hk, Kd.freshB (g := gb233) (o := .cells #[.int .i64 a1_0, .int .i64 a1_1, .slice A1_2 l1_2.length c1_2, .int .u64 a1_3] 25 (0, 0)) (bz BK233.out) k_ hk, Kd.freshB (g := gb253) (o := .cells #[.int .i64 ((rd_T25 l0_2 x63_2).f0), .int .i64 ((rd_T25 l0_2 x63_2).f1), .slice A252_2 ((rd_T25 l0_2 x63_2).f2).length c252_2, .int .u64 ((rd_T25 l0_2 x63_2).f3)] 25 (0, 0)) (bz BK253.out) k_ hk⟩))
          (case aO => exact (sz (Kd.S_mono HO263.out (fun k_ hk => ⟨⟨hk.1.1, ⟨hk.1.2.1, hk.1.2.2⟩⟩, fun e_ => hk.2 e_⟩))))
          (case aS => exact (below_size (hz5 HB.out GE232.out GE233.out GE234.out GE241.out GE253.out)))
          (case aL => have := LMc77.out; omega)
          intro v271 w87 ho hb hg hat
          rw [← Ny270.out] at ho
          replace HO_242001 := am (Kd.R_over' (rz HO_242001.out) (Kd.S_typed (sz HO263.out)) (by decide) hg)
          replace BK232 := am (blk_grown (bz BK232.out) hg (Kd.S_ne HO263.out BK232.out (by decide)))
          replace BK233 := am (blk_grown (bz BK233.out) hg (Kd.S_away HO263.out (fun _ hk => hk.1.2.1)))
          replace BK234 := am (blk_grown (bz BK234.out) hg (Kd.S_ne HO263.out BK234.out (by decide)))
          replace BK241 := am (blk_grown (bz BK241.out) hg (Kd.S_ne HO263.out BK241.out (by decide)))
          replace BK253 := am (blk_grown (bz BK253.out) hg (Kd.S_away HO263.out (fun _ hk => hk.1.2.2)))
          replace HB := am (hb)
          have HO272 := am (ho)
          clear HO263 HO268
          clear ho hb hg hat
          obtain ⟨Ao89, co89, eo89⟩ := Kd.S_slice HO272.out
          (first | subst eo89 | (injection eo89 with f1_ f2_ f3_; have f4_ := f1_.symm; have f5_ := f3_.symm; clear f1_ f2_ f3_; subst f4_; subst f5_))
          refine hK.out _ _ ⟨(blk_cell BK241.out 0).trans rfl, (blk_cell BK241.out 1).trans rfl, (blk_cell BK241.out 2).trans rfl, (blk_cell BK253.out 0).trans rfl, (blk_cell BK253.out 1).trans rfl, (blk_cell BK253.out 2).trans rfl, (blk_cell BK253.out 3).trans rfl⟩ (fun hHeld => ?_)
          clear hK K
          refine norm_ (a' := ?_) ?_ ?_
          rotate_left
          ·
           show Act.put _ (some 86) _ = _
           simp only [Act.put, List.setIfInBounds_toArray, List.set_cons_zero, List.set_cons_succ, i64_w, i32_w]
           rfl
          refine pz 6 87 HT_.out ?_
          refine last_ (i := 7) (N := none) #[true, true, true, true, true, true, true, true] rfl rfl (one_of HT_.out (by kernel_rfl)) (by decide) (fun K hK => ?_)
          have hs90 : w87.cell? ⟨gb241, 2, none⟩ = some (.slice Ao82 y261.length co82) := (blk_cell BK241.out 2).trans rfl
          have hfs90 := blk_frozen BK241.out 2
          have hns90_0 := NB232_241.out
          have hns90_1 := NB233_241.out
          have hns90_2 := NB234_241.out
          have hns90_4 := NB253_241.out
          have hms90_0 := NB241_232.out
          have hms90_1 := NB241_233.out
          have hms90_2 := NB241_234.out
          have hms90_4 := NB241_253.out
          refine skip_ (w1 := ?_) (by rfl) rfl ?_ ?_
          rotate_left
          ·
           go_simp
           rfl
          refine hK.out _ _ ?_
          clear hK K
          refine done_ (done_of HT_.out (by kernel_rfl)) ?_
          try go_wp2
          go_roundg kj53
          case measure => have := HJ12.out; have := HK2.out; have := HJ53.out; omega
          case rel => exact ⟨(true), (wrap64 (x63_2 + 1)), (y270), (.slice Ao89 y270.length co89), (by first | rfl | (simp; done) | (simp [*]; done)), (by first | rfl | (simp; done) | (simp [*]; done)), H', ⟨by have := HJ12.out; have := HK2.out; have := HJ53.out; omega⟩, ⟨by (with_reducible repeat (first | apply Kd.R_alloc | apply Kd.R_drewN | apply Kd.R_drew)); exact Kd.R_mono (Kd.R_far (p := ⟨gb241, 2, none⟩) (Kd.R_types HO_242001.out BK241.out (by decide)) (fun _ hk => hk.2) (.slice Ao89 y270.length co89)) (fun _ hk => trivial)⟩, ⟨by (with_reducible repeat (first | apply Kd.S_alloc | apply Kd.S_drewN | apply Kd.S_drew)); exact Kd.S_mono (Kd.S_far (p := ⟨gb241, 2, none⟩) (Kd.S_types HO272.out BK241.out (by decide)) (fun _ hk => hk.2) (.slice Ao89 y270.length co89)) (fun _ hk => ⟨hk.1.1, hk.1.2.1⟩)⟩, ⟨bf1 NB232_241.out BK232.out⟩, ⟨bf1 NB233_241.out BK233.out⟩, ⟨bf1 NB234_241.out BK234.out⟩, ⟨by (with_reducible repeat (first | refine blk_drewN ?_ _ | refine blk_drew ?_ | refine blk_alloc ?_ _)); refine blk_put (cs := #[.int .i64 a0_0, .slice Ao32 t238.length co32, .slice Ao82 y261.length co82]) ?_ 2 _ rfl; (with_reducible repeat (first | refine blk_drewN ?_ _ | refine blk_drew ?_ | refine blk_alloc ?_ _)); exact BK241.out⟩, ⟨hz5 HB.out GE232.out GE233.out GE234.out GE241.out GE253.out⟩⟩
         ·
          replace c73 := Bool.eq_false_iff.mpr c73
          subst c73
          have H1 : ((upload_copied.f ((rd_T25 l0_2 x63_2).f0) ((rd_T25 l0_2 x63_2).f1) ((rd_T25 l0_2 x63_2).f2) ((rd_T25 l0_2 x63_2).f3)).bind fun bt273 => (if x242002_2.length < 2932031007402 then (upload_Receive.l0 kj53 x9_2 l0_2 (l0_2.length : Int) (wrap64 (x63_2 + 1)) a1_0 a1_1 l1_2 a1_3 a0_0 t238 (x242002_2 ++ [(⟨bt273.1, bt273.2.1, bt273.2.2.1, bt273.2.2.2⟩ : S25)])) else (none))) = some (r1, r2, r3, r4) := by rw [if_neg (show ¬ (false = true) by decide)] at H; exact H
          clear H
          have H := H1
          clear H1
          replace H := Option.bind_eq_some_iff.mp H
          obtain ⟨⟨t273, t274, t275, t278⟩, A910, H⟩ := H
          replace H : (if x242002_2.length < 2932031007402 then (upload_Receive.l0 kj53 x9_2 l0_2 (l0_2.length : Int) (wrap64 (x63_2 + 1)) a1_0 a1_1 l1_2 a1_3 a0_0 t238 (x242002_2 ++ [(⟨t273, t274, t275, t278⟩ : S25)])) else (none)) = some (r1, r2, r3, r4) := H
          have A91 := am A910
          clear A910
          replace H := it_ H
          obtain ⟨c92, H⟩ := H
          have LMc92 := am c92
          clear c92
          obtain ⟨y279, hy279⟩ : ∃ y_ : List (S25), y_ = (x242002_2 ++ [(⟨t273, t274, t275, t278⟩ : S25)]) := ⟨_, rfl⟩
          replace H : (upload_Receive.l0 kj53 x9_2 l0_2 (l0_2.length : Int) (wrap64 (x63_2 + 1)) a1_0 a1_1 l1_2 a1_3 a0_0 t238 y279) = some (r1, r2, r3, r4) := by first | (rw [hy279]; with_reducible exact H) | (have H2_ := (Option.bind_some _ _).symm.trans H; rw [hy279]; with_reducible exact H2_) | (have H2_ := (Option.bind_some _ _).symm.trans H; with_reducible exact H2_) | with_reducible exact H | (rw [hy279]; exact H) | exact H
          have Ny279 := am hy279
          clear hy279
          have H' := am H
          clear H
          try go_wp2
          replace HO_242001 := am (Kd.R_drew HO_242001.out)
          replace HO_242002 := am (Kd.S_drew HO_242002.out)
          replace BK232 := am (blk_drew BK232.out)
          replace BK233 := am (blk_drew BK233.out)
          replace BK234 := am (blk_drew BK234.out)
          replace BK241 := am (blk_drew BK241.out)
          replace BK253 := am (blk_drew BK253.out)
          replace HB := am (below_drew1 HB.out)
          refine start_ (n := 8) (S := fun w' => w'.cell? ⟨gb241, 0, none⟩ = some (.int .i64 a0_0) ∧ w'.cell? ⟨gb241, 1, none⟩ = some (.slice Ao32 t238.length co32) ∧ w'.cell? ⟨gb241, 2, none⟩ = some (u242002) ∧ w'.cell? ⟨gb253, 0, none⟩ = some (.int .i64 ((rd_T25 l0_2 x63_2).f0)) ∧ w'.cell? ⟨gb253, 1, none⟩ = some (.int .i64 ((rd_T25 l0_2 x63_2).f1)) ∧ w'.cell? ⟨gb253, 2, none⟩ = some (.slice A252_2 ((rd_T25 l0_2 x63_2).f2).length c252_2) ∧ w'.cell? ⟨gb253, 3, none⟩ = some (.int .u64 ((rd_T25 l0_2 x63_2).f3))) (ds := [7]) #[false, false, false, false, false, false, false, false] (by kernel_rfl) rfl rfl ⟨(blk_cell BK241.out 0).trans rfl, (blk_cell BK241.out 1).trans rfl, (blk_cell BK241.out 2).trans rfl, (blk_cell BK253.out 0).trans rfl, (blk_cell BK253.out 1).trans rfl, (blk_cell BK253.out 2).trans rfl, (blk_cell BK253.out 3).trans rfl⟩ (fun hHeld => ?_); refine with_tabW upload_Receive.tab21 upload_Receive.bits21 (fun HT_ HW_ => ?_)
          generalize wc.drew = w93 at HO_242001 HO_242002 BK232 BK233 BK234 BK241 BK253 HB hHeld ⊢
          refine pz 0 81 HT_.out ?_
          refine tz7 1 82 HT_.out HW_.out hHeld ?_
          refine tz7 2 83 HT_.out HW_.out hHeld ?_
          refine oz 3 84 HT_.out (fun K hK => ?_)
          refine goes_ Try.func42 (by kernel_rfl) rfl #[.agg #[.int .i64 ((rd_T25 l0_2 x63_2).f0), .int .i64 ((rd_T25 l0_2 x63_2).f1), .slice A252_2 ((rd_T25 l0_2 x63_2).f2).length c252_2, .int .u64 ((rd_T25 l0_2 x63_2).f3)]] (by rfl) rfl rfl lz ?_
          with_reducible refine (upload_copied.calls ((rd_T25 l0_2 x63_2).f0) ((rd_T25 l0_2 x63_2).f1) _ _ ((rd_T25 l0_2 x63_2).f2) ((rd_T25 l0_2 x63_2).f3) t273 t274 t275 t278 _ ?side1 ?side2 A91.out).mono ?_
          (case side1 => exact cz (Kd.C_below HR252_2.out HB.out))
          (case side2 => exact HC252_2.out)
          rintro e w94 ⟨v276, rfl, ho0, hb⟩
          refine ⟨_, rfl, ?_⟩
          replace HO_242002 := am (Kd.S_elder' (sz HO_242002.out) (Kd.R_base ho0) hb)
          have HO277 := am (Kd.R_lower (Kd.R_new' ho0 (Kd.R_lt (rz HO_242001.out))) (below_size (hz5 HB.out GE232.out GE233.out GE234.out GE241.out GE253.out)))
          replace HO_242001 := am (Kd.R_elder' (rz HO_242001.out) (Kd.R_base ho0) hb)
          replace BK232 := am (blk_below (bz BK232.out) hb)
          replace BK233 := am (blk_below (bz BK233.out) hb)
          replace BK234 := am (blk_below (bz BK234.out) hb)
          replace BK241 := am (blk_below (bz BK241.out) hb)
          replace BK253 := am (blk_below (bz BK253.out) hb)
          replace HB := am (below_step (hz5 HB.out GE232.out GE233.out GE234.out GE241.out GE253.out) hb)
          (try clear hb)
          (try clear hb2)
          (try clear hk)
          (try clear hi)
          (try clear ho0)
          obtain ⟨Ao96, co96, eo96⟩ := Kd.R_slice HO277.out
          (first | subst eo96 | (injection eo96 with f1_ f2_ f3_; have f4_ := f1_.symm; have f5_ := f3_.symm; clear f1_ f2_ f3_; subst f4_; subst f5_))
          refine hK.out _ _ ⟨(blk_cell BK241.out 0).trans rfl, (blk_cell BK241.out 1).trans rfl, (blk_cell BK241.out 2).trans rfl, (blk_cell BK253.out 0).trans rfl, (blk_cell BK253.out 1).trans rfl, (blk_cell BK253.out 2).trans rfl, (blk_cell BK253.out 3).trans rfl⟩ (fun hHeld => ?_)
          clear hK K
          refine norm_ (a' := ?_) ?_ ?_
          rotate_left
          ·
           show Act.put _ (some 84) _ = _
           simp only [Act.put, List.setIfInBounds_toArray, List.set_cons_zero, List.set_cons_succ, i64_w, i32_w]
           rfl
          refine oz 4 85 HT_.out (fun K hK => ?_)
          refine value_ (w1 := ?_) (v := ?_) (by rfl) rfl ?_ ?_
          rotate_left 2
          ·
           go_simp
           constructor
           ·
            rfl
           ·
            rfl
          refine hK.out _ _ ⟨(blk_cell (blk_alloc BK241.out _) 0).trans rfl, (blk_cell (blk_alloc BK241.out _) 1).trans rfl, (blk_cell (blk_alloc BK241.out _) 2).trans rfl, (blk_cell (blk_alloc BK253.out _) 0).trans rfl, (blk_cell (blk_alloc BK253.out _) 1).trans rfl, (blk_cell (blk_alloc BK253.out _) 2).trans rfl, (blk_cell (blk_alloc BK253.out _) 3).trans rfl⟩ (fun hHeld => ?_)
          clear hK K
          refine norm_ (a' := ?_) ?_ ?_
          rotate_left
          ·
           show Act.put _ (some 85) _ = _
           simp only [Act.put, List.setIfInBounds_toArray, List.set_cons_zero, List.set_cons_succ, i64_w, i32_w]
           rfl
          refine oz 5 86 HT_.out (fun K hK => ?_)
          refine Kd.S_append_step k25 (w0 := w) w.heap.size (by rfl) (.tmp 82) (.tmp 85) 30 25 (.agg #[(.int .i64 0), (.int .i64 0), (.slice none 0 0), (.int .u64 0)]) 48 rfl Try.underlying30 info25 rfl (by decide) (by omega) u242002 x242002_2 (⟨t273, t274, t275, t278⟩ : S25) [.int .i64 t273, .int .i64 t274, .slice Ao96 t275.length co96, .int .u64 t278] (fun k_ => some k_ ≠ (.slice Ao32 t238.length co32 : Value).ownBlock ∧ k_ ≠ gb233 ∧ k_ ≠ gb253) (fun k_ => some k_ = (.slice Ao96 t275.length co96 : Value).ownBlock) rfl rfl ?aP (fun k_ hk_ => ((Kd.R_mono (ok' := fun k_ => ((fun k_ => some k_ ≠ (.slice Ao32 t238.length co32 : Value).ownBlock ∧ k_ ≠ gb233 ∧ k_ ≠ gb253)) k_ ∧ some k_ ≠ (u242002 : Value).ownBlock) (Kd.R_types (Kd.R_types (Kd.R_apart' (HO277.out) (Kd.S_typed HO_242002.out) (by decide)) BK233.out (by decide)) BK253.out (by decide)) (fun k_ hk => ⟨⟨hk.1.1.1.2, ⟨hk.1.2, hk.2⟩⟩, hk.1.1.2⟩))).1 k_ hk_.symm) ?aF ?aO ?aB ?aS ?aL ?_
          (case aP => exact k25_mkM _ _ _ (⟨t273, t274, t275, t278⟩ : S25) (Kd.R_mono (Kd.R_tight rfl (Kd.R_mono (ok' := fun k_ => ((fun k_ => some k_ ≠ (.slice Ao32 t238.length co32 : Value).ownBlock ∧ k_ ≠ gb233 ∧ k_ ≠ gb253)) k_ ∧ some k_ ≠ (u242002 : Value).ownBlock) (Kd.R_types (Kd.R_types (Kd.R_apart' (HO277.out) (Kd.S_typed HO_242002.out) (by decide)) BK233.out (by decide)) BK253.out (by decide)) (fun k_ hk => ⟨⟨hk.1.1.1.2, ⟨hk.1.2, hk.2⟩⟩, hk.1.1.2⟩))) (fun _ h_ => h_)))
          (case aB => exact (hz5 HB.out GE232.out GE233.out GE234.out GE241.out GE253.out))
          (case aF => exact (fun k_ hk => ⟨Kd.fresh' (Kd.R_lt (rz HO_242001.out)) k_ hk, Kd.freshB (g := gb233) (o := .cells #[.int .i64 a1_0, .int .i64 a1_1, .slice A1_2 l1_2.length c1_2, .int .u64 a1_3] 25 (0, 0)) (bz BK233.out) k_ hk, Kd.freshB (g := gb253) (o := .cells #[.int .i64 ((rd_T25 l0_2 x63_2).f0), .int .i64 ((rd_T25 l0_2 x63_2).f1), .slice A252_2 ((rd_T25 l0_2 x63_2).f2).length c252_2, .int .u64 ((rd_T25 l0_2 x63_2).f3)] 25 (0, 0)) (bz BK253.out) k_ hk⟩))
          (case aO => exact (sz (Kd.S_mono HO_242002.out (fun k_ hk => ⟨⟨hk.1.1, ⟨hk.1.2.1, hk.1.2.2⟩⟩, fun e_ => hk.2 e_⟩))))
          (case aS => exact (below_size (hz5 HB.out GE232.out GE233.out GE234.out GE241.out GE253.out)))
          (case aL => have := LMc92.out; omega)
          intro v280 w95 ho hb hg hat
          rw [← Ny279.out] at ho
          replace HO_242001 := am (Kd.R_over' (rz HO_242001.out) (Kd.S_typed (sz HO_242002.out)) (by decide) hg)
          replace BK232 := am (blk_grown (bz BK232.out) hg (Kd.S_ne HO_242002.out BK232.out (by decide)))
          replace BK233 := am (blk_grown (bz BK233.out) hg (Kd.S_away HO_242002.out (fun _ hk => hk.1.2.1)))
          replace BK234 := am (blk_grown (bz BK234.out) hg (Kd.S_ne HO_242002.out BK234.out (by decide)))
          replace BK241 := am (blk_grown (bz BK241.out) hg (Kd.S_ne HO_242002.out BK241.out (by decide)))
          replace BK253 := am (blk_grown (bz BK253.out) hg (Kd.S_away HO_242002.out (fun _ hk => hk.1.2.2)))
          replace HB := am (hb)
          have HO281 := am (ho)
          clear HO_242002 HO277
          clear ho hb hg hat
          obtain ⟨Ao97, co97, eo97⟩ := Kd.S_slice HO281.out
          (first | subst eo97 | (injection eo97 with f1_ f2_ f3_; have f4_ := f1_.symm; have f5_ := f3_.symm; clear f1_ f2_ f3_; subst f4_; subst f5_))
          refine hK.out _ _ ⟨(blk_cell BK241.out 0).trans rfl, (blk_cell BK241.out 1).trans rfl, (blk_cell BK241.out 2).trans rfl, (blk_cell BK253.out 0).trans rfl, (blk_cell BK253.out 1).trans rfl, (blk_cell BK253.out 2).trans rfl, (blk_cell BK253.out 3).trans rfl⟩ (fun hHeld => ?_)
          clear hK K
          refine norm_ (a' := ?_) ?_ ?_
          rotate_left
          ·
           show Act.put _ (some 86) _ = _
           simp only [Act.put, List.setIfInBounds_toArray, List.set_cons_zero, List.set_cons_succ, i64_w, i32_w]
           rfl
          refine pz 6 87 HT_.out ?_
          refine last_ (i := 7) (N := none) #[true, true, true, true, true, true, true, true] rfl rfl (one_of HT_.out (by kernel_rfl)) (by decide) (fun K hK => ?_)
          have hs98 : w95.cell? ⟨gb241, 2, none⟩ = some (u242002) := (blk_cell BK241.out 2).trans rfl
          have hfs98 := blk_frozen BK241.out 2
          have hns98_0 := NB232_241.out
          have hns98_1 := NB233_241.out
          have hns98_2 := NB234_241.out
          have hns98_4 := NB253_241.out
          have hms98_0 := NB241_232.out
          have hms98_1 := NB241_233.out
          have hms98_2 := NB241_234.out
          have hms98_4 := NB241_253.out
          refine skip_ (w1 := ?_) (by rfl) rfl ?_ ?_
          rotate_left
          ·
           go_simp
           rfl
          refine hK.out _ _ ?_
          clear hK K
          refine done_ (done_of HT_.out (by kernel_rfl)) ?_
          try go_wp2
          go_roundg kj53
          case measure => have := HJ12.out; have := HK2.out; have := HJ53.out; omega
          case rel => exact ⟨(x9_2), (wrap64 (x63_2 + 1)), (y279), (.slice Ao97 y279.length co97), (by first | rfl | (simp; done) | (simp [*]; done)), (by first | rfl | (simp; done) | (simp [*]; done)), H', ⟨by have := HJ12.out; have := HK2.out; have := HJ53.out; omega⟩, ⟨by (with_reducible repeat (first | apply Kd.R_alloc | apply Kd.R_drewN | apply Kd.R_drew)); exact Kd.R_mono (Kd.R_far (p := ⟨gb241, 2, none⟩) (Kd.R_types HO_242001.out BK241.out (by decide)) (fun _ hk => hk.2) (.slice Ao97 y279.length co97)) (fun _ hk => trivial)⟩, ⟨by (with_reducible repeat (first | apply Kd.S_alloc | apply Kd.S_drewN | apply Kd.S_drew)); exact Kd.S_mono (Kd.S_far (p := ⟨gb241, 2, none⟩) (Kd.S_types HO281.out BK241.out (by decide)) (fun _ hk => hk.2) (.slice Ao97 y279.length co97)) (fun _ hk => ⟨hk.1.1, hk.1.2.1⟩)⟩, ⟨bf1 NB232_241.out BK232.out⟩, ⟨bf1 NB233_241.out BK233.out⟩, ⟨bf1 NB234_241.out BK234.out⟩, ⟨by (with_reducible repeat (first | refine blk_drewN ?_ _ | refine blk_drew ?_ | refine blk_alloc ?_ _)); refine blk_put (cs := #[.int .i64 a0_0, .slice Ao32 t238.length co32, u242002]) ?_ 2 _ rfl; (with_reducible repeat (first | refine blk_drewN ?_ _ | refine blk_drew ?_ | refine blk_alloc ?_ _)); exact BK241.out⟩, ⟨hz5 HB.out GE232.out GE233.out GE234.out GE241.out GE253.out⟩⟩
      ·
       rw [if_neg c51] at H
       have c51b0 : decide (x63_2 < (l0_2.length : Int)) = false := decide_eq_false c51
       clear c51
       by_cases c99 : x9_2 = true
       ·
        subst c99
        have H1 : (some (a0_0, t238, x242002_2, 0)) = some (r1, r2, r3, r4) := by rw [if_pos rfl] at H; exact H
        clear H
        have H := H1
        clear H1
        simp only [Option.some.injEq, Prod.mk.injEq] at H
        obtain ⟨rfl, rfl, rfl, rfl⟩ := H
        have hnb100 := NB241_232.out
        have hnc100 := NB232_241.out
        have hnb101 := NB241_233.out
        have hnc101 := NB233_241.out
        have hnb102 := NB241_234.out
        have hnc102 := NB234_241.out
        have hcz103_0 : wr.cell? ⟨gb241, 0, none⟩ = some (.int .i64 a0_0) := (blk_cell BK241.out 0).trans rfl
        have hcz103_1 : wr.cell? ⟨gb241, 1, none⟩ = some (.slice Ao32 t238.length co32) := (blk_cell BK241.out 1).trans rfl
        have hcz103_2 : wr.cell? ⟨gb241, 2, none⟩ = some (u242002) := (blk_cell BK241.out 2).trans rfl
        have hfz103_0 := blk_frozen BK241.out 0
        have hfz103_1 := blk_frozen BK241.out 1
        have hfz103_2 := blk_frozen BK241.out 2
        have hnb104 := NB234_232.out
        have hnc104 := NB232_234.out
        have hnb105 := NB234_233.out
        have hnc105 := NB233_234.out
        have hcz106_0 : wr.cell? ⟨gb234, 0, none⟩ = some (.int .i64 0) := (blk_cell BK234.out 0).trans rfl
        have hcz106_1 : wr.cell? ⟨gb234, 1, none⟩ = some (.slice none 0 0) := (blk_cell BK234.out 1).trans rfl
        have hcz106_2 : wr.cell? ⟨gb234, 2, none⟩ = some (.slice none 0 0) := (blk_cell BK234.out 2).trans rfl
        have hfz106_0 := blk_frozen BK234.out 0
        have hfz106_1 := blk_frozen BK234.out 1
        have hfz106_2 := blk_frozen BK234.out 2
        obtain ⟨Ao107, co107, eo107⟩ := Kd.S_slice HO_242002.out
        subst eo107
        go_wp2
        refine bodyPost_ret (results_ct rfl _ _ gb234 34 #[.int .i64 a0_0, .slice Ao32 t238.length co32, .slice Ao107 x242002_2.length co107] (0, 0) _ rfl (by (with_reducible repeat (first | refine blk_drewN ?_ _ | refine blk_drew ?_ | refine blk_alloc ?_ _)); refine blk_put (cs := #[.int .i64 a0_0, .slice Ao32 t238.length co32, .slice none 0 0]) ?_ 2 _ rfl; (with_reducible repeat (first | refine blk_drewN ?_ _ | refine blk_drew ?_ | refine blk_alloc ?_ _)); refine blk_put (cs := #[.int .i64 a0_0, .slice none 0 0, .slice none 0 0]) ?_ 1 _ rfl; (with_reducible repeat (first | refine blk_drewN ?_ _ | refine blk_drew ?_ | refine blk_alloc ?_ _)); refine blk_put (cs := #[.int .i64 0, .slice none 0 0, .slice none 0 0]) ?_ 0 _ rfl; (with_reducible repeat (first | refine blk_drewN ?_ _ | refine blk_drew ?_ | refine blk_alloc ?_ _)); exact BK234.out) Try.underlying34 rfl (by kernel_rfl)) rfl ?_
        exact ⟨_, _, by first | rfl | (simp [errW_none, errW_some] <;> rfl) | (simp [*, errW_none, errW_some] <;> rfl), by (with_reducible repeat (first | apply Kd.R_alloc | apply Kd.R_drewN | apply Kd.R_drew)); exact Kd.R_mono (rfg3 HO_242001.out BK234.out) (fun _ hk => trivial), by (with_reducible repeat (first | apply Kd.S_alloc | apply Kd.S_drewN | apply Kd.S_drew)); exact Kd.S_mono (sfg3 HO_242002.out BK234.out) (fun _ hk => hk.1.1), hz4 HB.out GE232.out GE233.out GE234.out GE241.out⟩
       ·
        replace c99 := Bool.eq_false_iff.mpr c99
        subst c99
        have H1 : ((upload_copied.f a1_0 a1_1 l1_2 a1_3).bind fun bt243 => (if x242002_2.length < 2932031007402 then (some (a0_0, t238, (x242002_2 ++ [(⟨bt243.1, bt243.2.1, bt243.2.2.1, bt243.2.2.2⟩ : S25)]), 0)) else (none))) = some (r1, r2, r3, r4) := by rw [if_neg (show ¬ (false = true) by decide)] at H; exact H
        clear H
        have H := H1
        clear H1
        replace H := Option.bind_eq_some_iff.mp H
        obtain ⟨⟨t243, t244, t245, t248⟩, A1080, H⟩ := H
        replace H : (if x242002_2.length < 2932031007402 then (some (a0_0, t238, (x242002_2 ++ [(⟨t243, t244, t245, t248⟩ : S25)]), 0)) else (none)) = some (r1, r2, r3, r4) := H
        have A108 := am A1080
        clear A1080
        replace H := it_ H
        obtain ⟨c109, H⟩ := H
        have LMc109 := am c109
        clear c109
        obtain ⟨y249, hy249⟩ : ∃ y_ : List (S25), y_ = (x242002_2 ++ [(⟨t243, t244, t245, t248⟩ : S25)]) := ⟨_, rfl⟩
        replace H : (some (a0_0, t238, y249, 0)) = some (r1, r2, r3, r4) := by first | (rw [hy249]; with_reducible exact H) | (have H2_ := (Option.bind_some _ _).symm.trans H; rw [hy249]; with_reducible exact H2_) | (have H2_ := (Option.bind_some _ _).symm.trans H; with_reducible exact H2_) | with_reducible exact H | (rw [hy249]; exact H) | exact H
        have Ny249 := am hy249
        clear hy249
        simp only [Option.some.injEq, Prod.mk.injEq] at H
        obtain ⟨rfl, rfl, rfl, rfl⟩ := H
        try go_wp2
        replace HO_242001 := am (Kd.R_drew HO_242001.out)
        replace HO_242002 := am (Kd.S_drew HO_242002.out)
        replace BK232 := am (blk_drew BK232.out)
        replace BK233 := am (blk_drew BK233.out)
        replace BK234 := am (blk_drew BK234.out)
        replace BK241 := am (blk_drew BK241.out)
        replace HB := am (below_drew1 HB.out)
        refine start_ (n := 8) (S := fun w' => w'.cell? ⟨gb241, 0, none⟩ = some (.int .i64 a0_0) ∧ w'.cell? ⟨gb241, 1, none⟩ = some (.slice Ao32 t238.length co32) ∧ w'.cell? ⟨gb241, 2, none⟩ = some (u242002) ∧ w'.cell? ⟨gb233, 0, none⟩ = some (.int .i64 a1_0) ∧ w'.cell? ⟨gb233, 1, none⟩ = some (.int .i64 a1_1) ∧ w'.cell? ⟨gb233, 2, none⟩ = some (.slice A1_2 l1_2.length c1_2) ∧ w'.cell? ⟨gb233, 3, none⟩ = some (.int .u64 a1_3)) (ds := [7]) #[false, false, false, false, false, false, false, false] (by kernel_rfl) rfl rfl ⟨(blk_cell BK241.out 0).trans rfl, (blk_cell BK241.out 1).trans rfl, (blk_cell BK241.out 2).trans rfl, (blk_cell BK233.out 0).trans rfl, (blk_cell BK233.out 1).trans rfl, (blk_cell BK233.out 2).trans rfl, (blk_cell BK233.out 3).trans rfl⟩ (fun hHeld => ?_); refine with_tabW upload_Receive.tab24 upload_Receive.bits24 (fun HT_ HW_ => ?_)
        generalize wr.drew = w110 at HO_242001 HO_242002 BK232 BK233 BK234 BK241 HB hHeld ⊢
        refine pz 0 91 HT_.out ?_
        refine tz7 1 92 HT_.out HW_.out hHeld ?_
        refine tz7 2 93 HT_.out HW_.out hHeld ?_
        refine oz 3 94 HT_.out (fun K hK => ?_)
        refine goes_ Try.func42 (by kernel_rfl) rfl #[.agg #[.int .i64 a1_0, .int .i64 a1_1, .slice A1_2 l1_2.length c1_2, .int .u64 a1_3]] (by rfl) rfl rfl lz ?_
        with_reducible refine (upload_copied.calls a1_0 a1_1 _ _ l1_2 a1_3 t243 t244 t245 t248 _ ?side1 ?side2 A108.out).mono ?_
        (case side1 => exact cz (Kd.C_below HR1_2.out HB.out))
        (case side2 => exact HC1_2.out)
        rintro e w111 ⟨v246, rfl, ho0, hb⟩
        refine ⟨_, rfl, ?_⟩
        replace HO_242002 := am (Kd.S_elder' (sz HO_242002.out) (Kd.R_base ho0) hb)
        have HO247 := am (Kd.R_lower (Kd.R_new' ho0 (Kd.R_lt (rz HO_242001.out))) (below_size (hz4 HB.out GE232.out GE233.out GE234.out GE241.out)))
        replace HO_242001 := am (Kd.R_elder' (rz HO_242001.out) (Kd.R_base ho0) hb)
        replace BK232 := am (blk_below (bz BK232.out) hb)
        replace BK233 := am (blk_below (bz BK233.out) hb)
        replace BK234 := am (blk_below (bz BK234.out) hb)
        replace BK241 := am (blk_below (bz BK241.out) hb)
        replace HB := am (below_step (hz4 HB.out GE232.out GE233.out GE234.out GE241.out) hb)
        (try clear hb)
        (try clear hb2)
        (try clear hk)
        (try clear hi)
        (try clear ho0)
        obtain ⟨Ao113, co113, eo113⟩ := Kd.R_slice HO247.out
        (first | subst eo113 | (injection eo113 with f1_ f2_ f3_; have f4_ := f1_.symm; have f5_ := f3_.symm; clear f1_ f2_ f3_; subst f4_; subst f5_))
        refine hK.out _ _ ⟨(blk_cell BK241.out 0).trans rfl, (blk_cell BK241.out 1).trans rfl, (blk_cell BK241.out 2).trans rfl, (blk_cell BK233.out 0).trans rfl, (blk_cell BK233.out 1).trans rfl, (blk_cell BK233.out 2).trans rfl, (blk_cell BK233.out 3).trans rfl⟩ (fun hHeld => ?_)
        clear hK K
        refine norm_ (a' := ?_) ?_ ?_
        rotate_left
        ·
         show Act.put _ (some 94) _ = _
         simp only [Act.put, List.setIfInBounds_toArray, List.set_cons_zero, List.set_cons_succ, i64_w, i32_w]
         rfl
        refine oz 4 95 HT_.out (fun K hK => ?_)
        refine value_ (w1 := ?_) (v := ?_) (by rfl) rfl ?_ ?_
        rotate_left 2
        ·
         go_simp
         constructor
         ·
          rfl
         ·
          rfl
        refine hK.out _ _ ⟨(blk_cell (blk_alloc BK241.out _) 0).trans rfl, (blk_cell (blk_alloc BK241.out _) 1).trans rfl, (blk_cell (blk_alloc BK241.out _) 2).trans rfl, (blk_cell (blk_alloc BK233.out _) 0).trans rfl, (blk_cell (blk_alloc BK233.out _) 1).trans rfl, (blk_cell (blk_alloc BK233.out _) 2).trans rfl, (blk_cell (blk_alloc BK233.out _) 3).trans rfl⟩ (fun hHeld => ?_)
        clear hK K
        refine norm_ (a' := ?_) ?_ ?_
        rotate_left
        ·
         show Act.put _ (some 95) _ = _
         simp only [Act.put, List.setIfInBounds_toArray, List.set_cons_zero, List.set_cons_succ, i64_w, i32_w]
         rfl
        refine oz 5 96 HT_.out (fun K hK => ?_)
        refine Kd.S_append_step k25 (w0 := w) w.heap.size (by rfl) (.tmp 92) (.tmp 95) 30 25 (.agg #[(.int .i64 0), (.int .i64 0), (.slice none 0 0), (.int .u64 0)]) 48 rfl Try.underlying30 info25 rfl (by decide) (by omega) u242002 x242002_2 (⟨t243, t244, t245, t248⟩ : S25) [.int .i64 t243, .int .i64 t244, .slice Ao113 t245.length co113, .int .u64 t248] (fun k_ => some k_ ≠ (.slice Ao32 t238.length co32 : Value).ownBlock ∧ k_ ≠ gb233) (fun k_ => some k_ = (.slice Ao113 t245.length co113 : Value).ownBlock) rfl rfl ?aP (fun k_ hk_ => ((Kd.R_mono (ok' := fun k_ => ((fun k_ => some k_ ≠ (.slice Ao32 t238.length co32 : Value).ownBlock ∧ k_ ≠ gb233)) k_ ∧ some k_ ≠ (u242002 : Value).ownBlock) (Kd.R_types (Kd.R_apart' (HO247.out) (Kd.S_typed HO_242002.out) (by decide)) BK233.out (by decide)) (fun k_ hk => ⟨⟨hk.1.1.2, hk.2⟩, hk.1.2⟩))).1 k_ hk_.symm) ?aF ?aO ?aB ?aS ?aL ?_
        (case aP => exact k25_mkM _ _ _ (⟨t243, t244, t245, t248⟩ : S25) (Kd.R_mono (Kd.R_tight rfl (Kd.R_mono (ok' := fun k_ => ((fun k_ => some k_ ≠ (.slice Ao32 t238.length co32 : Value).ownBlock ∧ k_ ≠ gb233)) k_ ∧ some k_ ≠ (u242002 : Value).ownBlock) (Kd.R_types (Kd.R_apart' (HO247.out) (Kd.S_typed HO_242002.out) (by decide)) BK233.out (by decide)) (fun k_ hk => ⟨⟨hk.1.1.2, hk.2⟩, hk.1.2⟩))) (fun _ h_ => h_)))
        (case aB => exact (hz4 HB.out GE232.out GE233.out GE234.out GE241.out))
        (case aF => exact (fun k_ hk => ⟨Kd.fresh' (Kd.R_lt (rz HO_242001.out)) k_ hk, Kd.freshB (g := gb233) (o := .cells #[.int .i64 a1_0, .int .i64 a1_1, .slice A1_2 l1_2.length c1_2, .int .u64 a1_3] 25 (0, 0)) (bz BK233.out) k_ hk⟩))
        (case aO => exact (sz (Kd.S_mono HO_242002.out (fun k_ hk => ⟨⟨hk.1.1, hk.1.2⟩, fun e_ => hk.2 e_⟩))))
        (case aS => exact (below_size (hz4 HB.out GE232.out GE233.out GE234.out GE241.out)))
        (case aL => have := LMc109.out; omega)
        intro v250 w112 ho hb hg hat
        rw [← Ny249.out] at ho
        replace HO_242001 := am (Kd.R_over' (rz HO_242001.out) (Kd.S_typed (sz HO_242002.out)) (by decide) hg)
        replace BK232 := am (blk_grown (bz BK232.out) hg (Kd.S_ne HO_242002.out BK232.out (by decide)))
        replace BK233 := am (blk_grown (bz BK233.out) hg (Kd.S_away HO_242002.out (fun _ hk => hk.1.2)))
        replace BK234 := am (blk_grown (bz BK234.out) hg (Kd.S_ne HO_242002.out BK234.out (by decide)))
        replace BK241 := am (blk_grown (bz BK241.out) hg (Kd.S_ne HO_242002.out BK241.out (by decide)))
        replace HB := am (hb)
        have HO251 := am (ho)
        clear HO_242002 HO247
        clear ho hb hg hat
        obtain ⟨Ao114, co114, eo114⟩ := Kd.S_slice HO251.out
        (first | subst eo114 | (injection eo114 with f1_ f2_ f3_; have f4_ := f1_.symm; have f5_ := f3_.symm; clear f1_ f2_ f3_; subst f4_; subst f5_))
        refine hK.out _ _ ⟨(blk_cell BK241.out 0).trans rfl, (blk_cell BK241.out 1).trans rfl, (blk_cell BK241.out 2).trans rfl, (blk_cell BK233.out 0).trans rfl, (blk_cell BK233.out 1).trans rfl, (blk_cell BK233.out 2).trans rfl, (blk_cell BK233.out 3).trans rfl⟩ (fun hHeld => ?_)
        clear hK K
        refine norm_ (a' := ?_) ?_ ?_
        rotate_left
        ·
         show Act.put _ (some 96) _ = _
         simp only [Act.put, List.setIfInBounds_toArray, List.set_cons_zero, List.set_cons_succ, i64_w, i32_w]
         rfl
        refine pz 6 97 HT_.out ?_
        refine last_ (i := 7) (N := none) #[true, true, true, true, true, true, true, true] rfl rfl (one_of HT_.out (by kernel_rfl)) (by decide) (fun K hK => ?_)
        have hs115 : w112.cell? ⟨gb241, 2, none⟩ = some (u242002) := (blk_cell BK241.out 2).trans rfl
        have hfs115 := blk_frozen BK241.out 2
        have hns115_0 := NB232_241.out
        have hns115_1 := NB233_241.out
        have hns115_2 := NB234_241.out
        have hms115_0 := NB241_232.out
        have hms115_1 := NB241_233.out
        have hms115_2 := NB241_234.out
        refine skip_ (w1 := ?_) (by rfl) rfl ?_ ?_
        rotate_left
        ·
         go_simp
         rfl
        refine hK.out _ _ ?_
        clear hK K
        refine done_ (done_of HT_.out (by kernel_rfl)) ?_
        have hnb116 := NB241_232.out
        have hnc116 := NB232_241.out
        have hnb117 := NB241_233.out
        have hnc117 := NB233_241.out
        have hnb118 := NB241_234.out
        have hnc118 := NB234_241.out
        have hcz119_0 : w112.cell? ⟨gb241, 0, none⟩ = some (.int .i64 a0_0) := (blk_cell BK241.out 0).trans rfl
        have hcz119_1 : w112.cell? ⟨gb241, 1, none⟩ = some (.slice Ao32 t238.length co32) := (blk_cell BK241.out 1).trans rfl
        have hcz119_2 : w112.cell? ⟨gb241, 2, none⟩ = some (u242002) := (blk_cell BK241.out 2).trans rfl
        have hfz119_0 := blk_frozen BK241.out 0
        have hfz119_1 := blk_frozen BK241.out 1
        have hfz119_2 := blk_frozen BK241.out 2
        have hnb120 := NB234_232.out
        have hnc120 := NB232_234.out
        have hnb121 := NB234_233.out
        have hnc121 := NB233_234.out
        have hcz122_0 : w112.cell? ⟨gb234, 0, none⟩ = some (.int .i64 0) := (blk_cell BK234.out 0).trans rfl
        have hcz122_1 : w112.cell? ⟨gb234, 1, none⟩ = some (.slice none 0 0) := (blk_cell BK234.out 1).trans rfl
        have hcz122_2 : w112.cell? ⟨gb234, 2, none⟩ = some (.slice none 0 0) := (blk_cell BK234.out 2).trans rfl
        have hfz122_0 := blk_frozen BK234.out 0
        have hfz122_1 := blk_frozen BK234.out 1
        have hfz122_2 := blk_frozen BK234.out 2
        try go_wp2
        refine bodyPost_ret (results_ct rfl _ _ gb234 34 #[.int .i64 a0_0, .slice Ao32 t238.length co32, .slice Ao114 y249.length co114] (0, 0) _ rfl (by (with_reducible repeat (first | refine blk_drewN ?_ _ | refine blk_drew ?_ | refine blk_alloc ?_ _)); refine blk_put (cs := #[.int .i64 a0_0, .slice Ao32 t238.length co32, .slice none 0 0]) ?_ 2 _ rfl; (with_reducible repeat (first | refine blk_drewN ?_ _ | refine blk_drew ?_ | refine blk_alloc ?_ _)); refine blk_put (cs := #[.int .i64 a0_0, .slice none 0 0, .slice none 0 0]) ?_ 1 _ rfl; (with_reducible repeat (first | refine blk_drewN ?_ _ | refine blk_drew ?_ | refine blk_alloc ?_ _)); refine blk_put (cs := #[.int .i64 0, .slice none 0 0, .slice none 0 0]) ?_ 0 _ rfl; (with_reducible repeat (first | refine blk_drewN ?_ _ | refine blk_drew ?_ | refine blk_alloc ?_ _)); refine blk_far ?_ NB234_241.out _; (with_reducible repeat (first | refine blk_drewN ?_ _ | refine blk_drew ?_ | refine blk_alloc ?_ _)); exact BK234.out) Try.underlying34 rfl (by kernel_rfl)) rfl ?_
        exact ⟨_, _, by first | rfl | (simp [errW_none, errW_some] <;> rfl) | (simp [*, errW_none, errW_some] <;> rfl), by (with_reducible repeat (first | apply Kd.R_alloc | apply Kd.R_drewN | apply Kd.R_drew)); exact Kd.R_mono (Kd.R_far (p := ⟨gb234, 2, none⟩) (Kd.R_far (p := ⟨gb234, 1, none⟩) (Kd.R_far (p := ⟨gb234, 0, none⟩) (Kd.R_far (p := ⟨gb241, 2, none⟩) (Kd.R_types (Kd.R_types HO_242001.out BK241.out (by decide)) BK234.out (by decide)) (fun _ hk => hk.1.2) (.slice Ao114 y249.length co114)) (fun _ hk => hk.2) (.int .i64 a0_0)) (fun _ hk => hk.2) (.slice Ao32 t238.length co32)) (fun _ hk => hk.2) (.slice Ao114 y249.length co114)) (fun _ hk => trivial), by (with_reducible repeat (first | apply Kd.S_alloc | apply Kd.S_drewN | apply Kd.S_drew)); exact Kd.S_mono (Kd.S_far (p := ⟨gb234, 2, none⟩) (Kd.S_far (p := ⟨gb234, 1, none⟩) (Kd.S_far (p := ⟨gb234, 0, none⟩) (Kd.S_far (p := ⟨gb241, 2, none⟩) (Kd.S_types (Kd.S_types HO251.out BK241.out (by decide)) BK234.out (by decide)) (fun _ hk => hk.1.2) (.slice Ao114 y249.length co114)) (fun _ hk => hk.2) (.int .i64 a0_0)) (fun _ hk => hk.2) (.slice Ao32 t238.length co32)) (fun _ hk => hk.2) (.slice Ao114 y249.length co114)) (fun _ hk => hk.1.1.1), hz4 HB.out GE232.out GE233.out GE234.out GE241.out⟩

end Go.Proofs.Ytglpnbcockancaa.Q
