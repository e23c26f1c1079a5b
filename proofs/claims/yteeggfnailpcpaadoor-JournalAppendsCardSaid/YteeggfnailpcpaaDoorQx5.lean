/- Made by wip/myprint.py of this session (it drives the kit's printer): what the calls of the Go functions come to, as plain Lean functions, and the row of a law over them; without conditions. -/
import Derived.Test.YteeggfnailpcpaaDoorQx0
import Derived.Test.YteeggfnailpcpaaDoorQx4
namespace Go.Proofs.YteeggfnailpcpaaDoor.Q
open Go.RowKit Go.Proofs.YteeggfnailpcpaaDoorW.PrintWords Go.Proofs.YteeggfnailpcpaaDoorW.PrintLast Go.Proofs.YteeggfnailpcpaaDoorW.PrintMore
attribute [local go_sem] max2_int min2_int max_two min_two max_three min_three max_four min_four   -- for this text's walks alone
set_option linter.unusedVariables false
set_option linter.unusedSimpArgs false

/-! ### codec_decoder_node: function 67 -/
mutual
def codec_decoder_node.l0 : Nat → List Int → Int → Int → List Int → Int → Int → Int → Int → ByteArray → Option (Int × Int × Int × ByteArray × (List (S43)) × Int × Int)
 | 0, _, _, _, _, _, _, _, _, _ => none
 | k + 1, x8, x47, x48, x1000, x1001, x173000, x173001, x173002, x173003 => if x48 < x47 then ((codec_decoder_next.f x1000 x1001).bind fun bt185 => (if bt185.2.2 = 0 then (if x8.length < 140737488355328 then (codec_decoder_node.l0 k (x8 ++ [bt185.1]) x47 (wrap64 (x48 + 1)) x1000 bt185.2.1 x173000 x173001 x173002 x173003) else (none)) else (some (0, 0, 0, (⟨#[]⟩ : ByteArray), ([] : List (S43)), bt185.2.1, bt185.2.2)))) else (some (x173000, x173001, x173002, strOfNums x8, ([] : List (S43)), x1001, 0))
def codec_decoder_node.l1 : Nat → Int → Int → Int → List Int → Int → Int → Int → Int → ByteArray → List (S43) → Option (Int × Int × Int × ByteArray × (List (S43)) × Int × Int)
 | 0, _, _, _, _, _, _, _, _, _, _ => none
 | k + 1, x1, x63, x64, x1000, x1001, x173000, x173001, x173002, x173003, x173004 => if x64 < x63 then ((codec_decoder_node.f k x1000 x1001 (wrap64 (x1 + 1))).bind fun bt194 => (if bt194.2.2.2.2.2.2 = 0 then (if x173004.length < 2199023255552 then (codec_decoder_node.l1 k x1 x63 (wrap64 (x64 + 1)) x1000 bt194.2.2.2.2.2.1 x173000 x173001 x173002 x173003 (x173004 ++ [(⟨bt194.1, bt194.2.1, bt194.2.2.1, bt194.2.2.2.1, bt194.2.2.2.2.1⟩ : S43)])) else (none)) else (some (0, 0, 0, (⟨#[]⟩ : ByteArray), ([] : List (S43)), bt194.2.2.2.2.2.1, bt194.2.2.2.2.2.2)))) else (some (x173000, x173001, x173002, x173003, x173004, x1001, 0))
def codec_decoder_node.f : Nat → List Int → Int → Int → Option (Int × Int × Int × ByteArray × (List (S43)) × Int × Int)
 | 0, _, _, _ => none
 | k + 1, s0_0, s0_1, a1 => if a1 > 8 then (some (0, 0, 0, (⟨#[]⟩ : ByteArray), ([] : List (S43)), s0_1, 5)) else ((codec_decoder_limited.f k s0_0 s0_1 9999999 3).bind fun bt169 => (if bt169.2.2 = 0 then ((codec_decoder_next.f s0_0 bt169.2.1).bind fun bt173 => (if bt173.2.2 = 0 then (if (wrap64 (bt173.1)) = 1 then ((codec_decoder_varint.f k s0_0 bt173.2.1).bind fun bt176 => (if bt176.2.2 = 0 then (if (Go.bits .and .u64 bt176.1 1) = 1 then (some (bt169.1, wrap64 (bt173.1), wrap64 ((wrap64 (-(wrap64 (bt176.1 / 2)))) - 1), (⟨#[]⟩ : ByteArray), ([] : List (S43)), bt176.2.1, 0)) else (some (bt169.1, wrap64 (bt173.1), wrap64 (bt176.1 / 2), (⟨#[]⟩ : ByteArray), ([] : List (S43)), bt176.2.1, 0))) else (some (0, 0, 0, (⟨#[]⟩ : ByteArray), ([] : List (S43)), bt176.2.1, bt176.2.2)))) else (if (wrap64 (bt173.1)) = 2 then ((codec_decoder_limited.f k s0_0 bt173.2.1 2000 5).bind fun bt179 => (if bt179.2.2 = 0 then (if 0 ≤ bt179.1 then (if (bt179.1 : Int).toNat ≤ 281474976710656 then (codec_decoder_node.l0 k (([] : List Int)) bt179.1 0 s0_0 bt179.2.1 bt169.1 (wrap64 (bt173.1)) 0 (⟨#[]⟩ : ByteArray)) else (none)) else (none)) else (some (0, 0, 0, (⟨#[]⟩ : ByteArray), ([] : List (S43)), bt179.2.1, bt179.2.2)))) else (if (wrap64 (bt173.1)) = 3 then ((codec_decoder_limited.f k s0_0 bt173.2.1 1024 5).bind fun bt191 => (if bt191.2.2 = 0 then (codec_decoder_node.l1 k a1 bt191.1 0 s0_0 bt191.2.1 bt169.1 (wrap64 (bt173.1)) 0 (⟨#[]⟩ : ByteArray) ([] : List (S43))) else (some (0, 0, 0, (⟨#[]⟩ : ByteArray), ([] : List (S43)), bt191.2.1, bt191.2.2)))) else (some (0, 0, 0, (⟨#[]⟩ : ByteArray), ([] : List (S43)), bt173.2.1, 2))))) else (some (0, 0, 0, (⟨#[]⟩ : ByteArray), ([] : List (S43)), bt173.2.1, bt173.2.2)))) else (some (0, 0, 0, (⟨#[]⟩ : ByteArray), ([] : List (S43)), bt169.2.1, bt169.2.2))))
end
theorem codec_decoder_node.mono_l : ∀ k, (∀ y0 y1 y2, LeO (codec_decoder_node.f k y0 y1 y2) (codec_decoder_node.f (k + 1) y0 y1 y2)) ∧ (∀ y0 y1 y2 y3 y4 y5 y6 y7 y8, LeO (codec_decoder_node.l0 k y0 y1 y2 y3 y4 y5 y6 y7 y8) (codec_decoder_node.l0 (k + 1) y0 y1 y2 y3 y4 y5 y6 y7 y8)) ∧ (∀ y0 y1 y2 y3 y4 y5 y6 y7 y8 y9, LeO (codec_decoder_node.l1 k y0 y1 y2 y3 y4 y5 y6 y7 y8 y9) (codec_decoder_node.l1 (k + 1) y0 y1 y2 y3 y4 y5 y6 y7 y8 y9))
 | 0 => ⟨fun _ _ _ r h => by simp [codec_decoder_node.f] at h, fun _ _ _ _ _ _ _ _ _ r h => by simp [codec_decoder_node.l0] at h, fun _ _ _ _ _ _ _ _ _ _ r h => by simp [codec_decoder_node.l1] at h⟩
 | k + 1 => by
  obtain ⟨ih0, ih1, ih2⟩ := codec_decoder_node.mono_l k
  refine ⟨?_, ?_, ?_⟩
  ·
   intro y0 y1 y2
   unfold codec_decoder_node.f
   repeat' first
   | (with_reducible exact ih0 _ _ _)
   | (with_reducible exact ih1 _ _ _ _ _ _ _ _ _)
   | (with_reducible exact ih2 _ _ _ _ _ _ _ _ _ _)
   | (with_reducible exact codec_decoder_limited.mono _ _ _ _ _)
   | (with_reducible exact codec_decoder_varint.mono _ _ _)
   | (with_reducible exact LeO.refl _)
   | (with_reducible exact LeO.none _)
   | (with_reducible refine LeO.ite ?_ ?_)
   | (with_reducible refine LeO.bind ?_ (fun _ => ?_))
   | exact ih0 _ _ _
   | exact ih1 _ _ _ _ _ _ _ _ _
   | exact ih2 _ _ _ _ _ _ _ _ _ _
   | exact codec_decoder_limited.mono _ _ _ _ _
   | exact codec_decoder_varint.mono _ _ _
   | exact LeO.none _
   | refine LeO.ite ?_ ?_
   | refine LeO.bind ?_ (fun _ => ?_)
  ·
   intro y0 y1 y2 y3 y4 y5 y6 y7 y8
   unfold codec_decoder_node.l0
   repeat' first
   | (with_reducible exact ih0 _ _ _)
   | (with_reducible exact ih1 _ _ _ _ _ _ _ _ _)
   | (with_reducible exact ih2 _ _ _ _ _ _ _ _ _ _)
   | (with_reducible exact codec_decoder_limited.mono _ _ _ _ _)
   | (with_reducible exact codec_decoder_varint.mono _ _ _)
   | (with_reducible exact LeO.refl _)
   | (with_reducible exact LeO.none _)
   | (with_reducible refine LeO.ite ?_ ?_)
   | (with_reducible refine LeO.bind ?_ (fun _ => ?_))
   | exact ih0 _ _ _
   | exact ih1 _ _ _ _ _ _ _ _ _
   | exact ih2 _ _ _ _ _ _ _ _ _ _
   | exact codec_decoder_limited.mono _ _ _ _ _
   | exact codec_decoder_varint.mono _ _ _
   | exact LeO.none _
   | refine LeO.ite ?_ ?_
   | refine LeO.bind ?_ (fun _ => ?_)
  ·
   intro y0 y1 y2 y3 y4 y5 y6 y7 y8 y9
   unfold codec_decoder_node.l1
   repeat' first
   | (with_reducible exact ih0 _ _ _)
   | (with_reducible exact ih1 _ _ _ _ _ _ _ _ _)
   | (with_reducible exact ih2 _ _ _ _ _ _ _ _ _ _)
   | (with_reducible exact codec_decoder_limited.mono _ _ _ _ _)
   | (with_reducible exact codec_decoder_varint.mono _ _ _)
   | (with_reducible exact LeO.refl _)
   | (with_reducible exact LeO.none _)
   | (with_reducible refine LeO.ite ?_ ?_)
   | (with_reducible refine LeO.bind ?_ (fun _ => ?_))
   | exact ih0 _ _ _
   | exact ih1 _ _ _ _ _ _ _ _ _
   | exact ih2 _ _ _ _ _ _ _ _ _ _
   | exact codec_decoder_limited.mono _ _ _ _ _
   | exact codec_decoder_varint.mono _ _ _
   | exact LeO.none _
   | refine LeO.ite ?_ ?_
   | refine LeO.bind ?_ (fun _ => ?_)
theorem codec_decoder_node.mono : ∀ a0 a1 a2 k, LeO (codec_decoder_node.f k a0 a1 a2) (codec_decoder_node.f (k + 1) a0 a1 a2) := by
 intro a0 a1 a2 k
 obtain ⟨ih0, ih1, ih2⟩ := codec_decoder_node.mono_l k
 exact ih0 a0 a1 a2
def codec_decoder_node.T24 : Bool × List (List Nat × List Nat) := (true, [([], []), ([0], [0]), ([], []), ([], []), ([3], [3]), ([2, 4], [2, 4]), ([5], [5]), ([1, 6, 5], [1, 6]), ([0, 1, 2, 3, 4, 5, 6, 7], []), ([8, 7, 7, 0, 1, 2, 3, 4, 5, 6, 7], [7, 8])])
def codec_decoder_node.B24 : List Nat := [0, 1, 0, 0, 8, 28, 60, 127, 255, 511]
theorem codec_decoder_node.tab24 : rtab .any (opsOf Tryd.f67 24) = codec_decoder_node.T24 := by kernel_rfl
theorem codec_decoder_node.bits24 : waitsOk codec_decoder_node.T24.2 codec_decoder_node.B24 = true := by kernel_rfl
set_option maxHeartbeats 8000000 in
set_option maxRecDepth 100000 in
theorem codec_decoder_node.calls (k : Nat) : ∀ (g : Nat) (s0_0 : List Int) (s0_1 : Int) (a1 : Int) (r1 : Int) (r2 : Int) (r3 : Int) (r4 : ByteArray) (r5 : List (S43)) (r6 : Int) (r7 : Int) (w0 w : World) (hI : IsS99 w0 w g s0_0 s0_1) (hB : Below w0.heap.size w0 w) (h : codec_decoder_node.f k s0_0 s0_1 a1 = some (r1, r2, r3, r4, r5, r6, r7)),
  Calls Tryd.prog 67 #[.pointer (some ⟨g, 0, none⟩), .int .i64 a1] w fun e w' => ∃ v4_ : Value, e = endOf_ 95 r7 (.agg #[.int .i64 r1, .int .i64 r2, .int .i64 r3, .string r4, v4_]) ∧ Kd.R k43 43 w' w.heap.size (fun _ => True) v4_ r5 ∧ IsS99 w0 w' g s0_0 r6 ∧ Below w0.heap.size w0 w' ∧ KeepBut w w' g none := by
 induction k using Nat.strongRecOn with
 | _ k ih =>
 intro g s0_0 s0_1 a1 r1 r2 r3 r4 r5 r6 r7 w0 w hI hB h
 cases k with
 | zero => exact absurd h (by simp [codec_decoder_node.f])
 | succ k =>
 simp only [codec_decoder_node.f] at h
 have hu43 := Tryd.underlying43
 have hu95 := Tryd.underlying95
 have HI0 := am hI
 have HK := am (KeepBut.refl w g none)
 have HL := am hB.size
 clear hI
 have HW0 := am hB.size
 have HB := am hB
 clear hB
 have H : (if a1 > 8 then (some (0, 0, 0, (⟨#[]⟩ : ByteArray), ([] : List (S43)), s0_1, 5)) else ((codec_decoder_limited.f k s0_0 s0_1 9999999 3).bind fun bt169 => (if bt169.2.2 = 0 then ((codec_decoder_next.f s0_0 bt169.2.1).bind fun bt173 => (if bt173.2.2 = 0 then (if (wrap64 (bt173.1)) = 1 then ((codec_decoder_varint.f k s0_0 bt173.2.1).bind fun bt176 => (if bt176.2.2 = 0 then (if (Go.bits .and .u64 bt176.1 1) = 1 then (some (bt169.1, wrap64 (bt173.1), wrap64 ((wrap64 (-(wrap64 (bt176.1 / 2)))) - 1), (⟨#[]⟩ : ByteArray), ([] : List (S43)), bt176.2.1, 0)) else (some (bt169.1, wrap64 (bt173.1), wrap64 (bt176.1 / 2), (⟨#[]⟩ : ByteArray), ([] : List (S43)), bt176.2.1, 0))) else (some (0, 0, 0, (⟨#[]⟩ : ByteArray), ([] : List (S43)), bt176.2.1, bt176.2.2)))) else (if (wrap64 (bt173.1)) = 2 then ((codec_decoder_limited.f k s0_0 bt173.2.1 2000 5).bind fun bt179 => (if bt179.2.2 = 0 then (if 0 ≤ bt179.1 then (if (bt179.1 : Int).toNat ≤ 281474976710656 then (codec_decoder_node.l0 k (([] : List Int)) bt179.1 0 s0_0 bt179.2.1 bt169.1 (wrap64 (bt173.1)) 0 (⟨#[]⟩ : ByteArray)) else (none)) else (none)) else (some (0, 0, 0, (⟨#[]⟩ : ByteArray), ([] : List (S43)), bt179.2.1, bt179.2.2)))) else (if (wrap64 (bt173.1)) = 3 then ((codec_decoder_limited.f k s0_0 bt173.2.1 1024 5).bind fun bt191 => (if bt191.2.2 = 0 then (codec_decoder_node.l1 k a1 bt191.1 0 s0_0 bt191.2.1 bt169.1 (wrap64 (bt173.1)) 0 (⟨#[]⟩ : ByteArray) ([] : List (S43))) else (some (0, 0, 0, (⟨#[]⟩ : ByteArray), ([] : List (S43)), bt191.2.1, bt191.2.2)))) else (some (0, 0, 0, (⟨#[]⟩ : ByteArray), ([] : List (S43)), bt173.2.1, 2))))) else (some (0, 0, 0, (⟨#[]⟩ : ByteArray), ([] : List (S43)), bt173.2.1, bt173.2.2)))) else (some (0, 0, 0, (⟨#[]⟩ : ByteArray), ([] : List (S43)), bt169.2.1, bt169.2.2))))) = some (r1, r2, r3, r4, r5, r6, r7) := h
 clear h
 by_cases c3 : a1 > 8
 ·
  rw [if_pos c3] at H
  have c3b0 : decide (8 < a1) = true := decide_eq_true c3
  clear c3
  simp only [Option.some.injEq, Prod.mk.injEq] at H
  obtain ⟨rfl, rfl, rfl, rfl, rfl, rfl, rfl⟩ := H
  go_enter Tryd.func67, Tryd.ntmps67
  go_wp2_with (first | ((with_reducible refine gate_dst (N := 4) rfl ?_); refine box_event rfl (N := 4) rfl (cs := #[.int .i64 0, .int .i64 0, .int .i64 0, .string (⟨#[]⟩ : ByteArray), .slice none 0 0]) (t := 43) gz ?_; intro gb168 hg w4 hbox hb; replace HB := am (below_step (hz1 HB.out (IsS99.ge HI0.out)) hb); have BK168 := am (hbox); have GW168 := am ((by rw [hg]; exact (keep_size (w := w) (g := g) (row := none) (kz HK.out)) : w.heap.size ≤ gb168)); have GE168 := am ((Nat.le_trans HW0.out (by rw [hg]; exact (keep_size (w := w) (g := g) (row := none) (kz HK.out)) : w.heap.size ≤ gb168) : w0.heap.size ≤ gb168)); replace HK := am (KeepBut.trans (kz HK.out) (KeepBut.of_below hb g none) (.inl rfl)); have NB0_168 := am ((by rw [hg]; exact Nat.ne_of_lt (IsS99.lt (show IsS99 w0 _ g s0_0 s0_1 from is99_0 HI0.out)) : g ≠ gb168)); have NB168_0 := am ((by rw [hg]; exact Nat.ne_of_gt (IsS99.lt (show IsS99 w0 _ g s0_0 s0_1 from is99_0 HI0.out)) : gb168 ≠ g)); replace HI0 := am (IsS99.below (is99_0 HI0.out) hb); clear hb hbox hg))
  refine ⟨rfl, ?_⟩
  exact ⟨_, by first | rfl | (refine pan_eq ?_; assumption) | (simp [errW_none, errW_some] <;> rfl) | (simp [*, errW_none, errW_some] <;> rfl), nlz, is99_1 HI0.out NB0_168.out, hz2 HB.out (IsS99.ge HI0.out) GE168.out, kz1 HK.out GW168.out⟩
 ·
  rw [if_neg c3] at H
  have c3b0 : decide (8 < a1) = false := decide_eq_false c3
  clear c3
  replace H := Option.bind_eq_some_iff.mp H
  obtain ⟨⟨t169, t170, t171⟩, A50, H⟩ := H
  try dsimp only at H
  have A5 := am A50
  clear A50
  by_cases c6 : t171 = 0
  ·
   rw [if_pos c6] at H
   have c6b0 : (t171 == 0) = true := beq_iff_eq.mpr c6
   have c6b1 : (t171 != 0) = false := bne_eq_false_iff_eq.mpr c6
   clear c6
   replace H := Option.bind_eq_some_iff.mp H
   obtain ⟨⟨t173, t174, t175⟩, A70, H⟩ := H
   try dsimp only at H
   have A7 := am A70
   clear A70
   by_cases c8 : t175 = 0
   ·
    rw [if_pos c8] at H
    have c8b0 : (t175 == 0) = true := beq_iff_eq.mpr c8
    have c8b1 : (t175 != 0) = false := bne_eq_false_iff_eq.mpr c8
    clear c8
    by_cases c9 : (wrap64 (t173)) = 1
    ·
     rw [if_pos c9] at H
     have c9b0 : ((wrap64 (t173)) == 1) = true := beq_iff_eq.mpr c9
     have c9b1 : ((wrap64 (t173)) != 1) = false := bne_eq_false_iff_eq.mpr c9
     clear c9
     replace H := Option.bind_eq_some_iff.mp H
     obtain ⟨⟨t176, t177, t178⟩, A100, H⟩ := H
     try dsimp only at H
     have A10 := am A100
     clear A100
     by_cases c11 : t178 = 0
     ·
      rw [if_pos c11] at H
      have c11b0 : (t178 == 0) = true := beq_iff_eq.mpr c11
      have c11b1 : (t178 != 0) = false := bne_eq_false_iff_eq.mpr c11
      clear c11
      by_cases c12 : (Go.bits .and .u64 t176 1) = 1
      ·
       rw [if_pos c12] at H
       have c12b0 : ((Go.bits .and .u64 t176 1) == 1) = true := beq_iff_eq.mpr c12
       have c12b1 : ((Go.bits .and .u64 t176 1) != 1) = false := bne_eq_false_iff_eq.mpr c12
       clear c12
       simp only [Option.some.injEq, Prod.mk.injEq] at H
       obtain ⟨rfl, rfl, rfl, rfl, rfl, rfl, rfl⟩ := H
       go_enter Tryd.func67, Tryd.ntmps67
       go_wp2_with (first | ((with_reducible refine gate_dst (N := 4) rfl ?_); refine box_event rfl (N := 4) rfl (cs := #[.int .i64 0, .int .i64 0, .int .i64 0, .string (⟨#[]⟩ : ByteArray), .slice none 0 0]) (t := 43) gz ?_; intro gb168 hg w13 hbox hb; replace HB := am (below_step (hz1 HB.out (IsS99.ge HI0.out)) hb); have BK168 := am (hbox); have GW168 := am ((by rw [hg]; exact (keep_size (w := w) (g := g) (row := none) (kz HK.out)) : w.heap.size ≤ gb168)); have GE168 := am ((Nat.le_trans HW0.out (by rw [hg]; exact (keep_size (w := w) (g := g) (row := none) (kz HK.out)) : w.heap.size ≤ gb168) : w0.heap.size ≤ gb168)); replace HK := am (KeepBut.trans (kz HK.out) (KeepBut.of_below hb g none) (.inl rfl)); have NB0_168 := am ((by rw [hg]; exact Nat.ne_of_lt (IsS99.lt (show IsS99 w0 _ g s0_0 s0_1 from is99_0 HI0.out)) : g ≠ gb168)); have NB168_0 := am ((by rw [hg]; exact Nat.ne_of_gt (IsS99.lt (show IsS99 w0 _ g s0_0 s0_1 from is99_0 HI0.out)) : gb168 ≠ g)); replace HI0 := am (IsS99.below (is99_0 HI0.out) hb); clear hb hbox hg) | ((with_reducible refine gate_callee (f := 72) rfl ?_); refine goesLP_ (some 15) rfl rfl Tryd.func72 (by kernel_rfl) rfl #[.pointer (some ⟨g, 0, none⟩), .int .u64 9999999, .int .i64 3] rfl lz ?_; (with_reducible refine (codec_decoder_limited.calls k g s0_0 s0_1 9999999 3 t169 t170 t171 w0 _ ?side1 ?side2 A5.out).mono ?_); (case side1 => exact is99_1 HI0.out NB0_168.out); (case side2 => exact hz2 HB.out (IsS99.ge HI0.out) GE168.out); rintro e w14 ⟨he_, hi, hb, hk⟩; (first | (refine zero_ he_ ?hz_ ?_; (case hz_ => (with_reducible assumption))) | (refine pan_ he_ ?hz_ ?_; (case hz_ => (with_reducible assumption)))); replace BK168 := am (KeepBut.blk hk (g' := gb168) (o := .cells #[.int .i64 0, .int .i64 0, .int .i64 0, .string (⟨#[]⟩ : ByteArray), .slice none 0 0] 43 (0, 0)) (bz BK168.out) NB168_0.out (by simp)); replace HK := am (KeepBut.trans (kz1 HK.out GW168.out) hk (.inl rfl)); replace HB := am (hb); replace HI0 := am (hi)) | ((with_reducible refine gate_dst (N := 5) rfl ?_); refine box_event rfl (N := 5) rfl (cs := #[.int .i64 0, .int .i64 0, .int .i64 0, .string (⟨#[]⟩ : ByteArray), .slice none 0 0]) (t := 43) gz ?_; intro gb172 hg w15 hbox hb; replace HB := am (below_step (hz2 HB.out (IsS99.ge HI0.out) GE168.out) hb); have BK172 := am (hbox); have GW172 := am ((by rw [hg]; exact (keep_size (w := w) (g := g) (row := none) (kz1 HK.out GW168.out)) : w.heap.size ≤ gb172)); have GE172 := am ((Nat.le_trans HW0.out (by rw [hg]; exact (keep_size (w := w) (g := g) (row := none) (kz1 HK.out GW168.out)) : w.heap.size ≤ gb172) : w0.heap.size ≤ gb172)); replace HK := am (KeepBut.trans (kz1 HK.out GW168.out) (KeepBut.of_below hb g none) (.inl rfl)); have NB168_172 := am ((nl hg (bz BK168.out) : gb168 ≠ gb172)); have NB172_168 := am ((ng hg (bz BK168.out) : gb172 ≠ gb168)); replace BK168 := am (bw BK168.out hb); have NB0_172 := am ((by rw [hg]; exact Nat.ne_of_lt (IsS99.lt (show IsS99 w0 _ g s0_0 t170 from is99_1 HI0.out NB0_168.out)) : g ≠ gb172)); have NB172_0 := am ((by rw [hg]; exact Nat.ne_of_gt (IsS99.lt (show IsS99 w0 _ g s0_0 t170 from is99_1 HI0.out NB0_168.out)) : gb172 ≠ g)); replace HI0 := am (IsS99.below (is99_1 HI0.out NB0_168.out) hb); clear hb hbox hg; have hnb16 := NB172_168.out; have hnc16 := NB168_172.out; have hnb17 := NB172_0.out; have hnc17 := NB0_172.out; obtain ⟨hcz18_0, hcz18_1, hcz18_2, hcz18_3, hcz18_4⟩ := cs5 BK172.out; obtain ⟨hfz18_0, hfz18_1, hfz18_2, hfz18_3, hfz18_4⟩ := fs5 BK172.out) | ((with_reducible refine gate_callee (f := 73) rfl ?_); refine goesLP_ (some 18) rfl rfl Tryd.func73 (by kernel_rfl) rfl #[.pointer (some ⟨g, 0, none⟩)] rfl lz ?_; (with_reducible refine (codec_decoder_next.calls g s0_0 t170 t173 t174 t175 w0 _ ?side1 ?side2 A7.out).mono ?_); (case side1 => exact is99_2 HI0.out NB0_168.out NB0_172.out); (case side2 => exact hz3 HB.out (IsS99.ge HI0.out) GE168.out GE172.out); rintro e w19 ⟨he_, hi, hb, hk⟩; (first | (refine zero_ he_ ?hz_ ?_; (case hz_ => (with_reducible assumption))) | (refine pan_ he_ ?hz_ ?_; (case hz_ => (with_reducible assumption)))); replace BK168 := am (KeepBut.blk hk (g' := gb168) (o := .cells #[.int .i64 0, .int .i64 0, .int .i64 0, .string (⟨#[]⟩ : ByteArray), .slice none 0 0] 43 (0, 0)) (bf1 NB168_172.out BK168.out) NB168_0.out (by simp)); replace BK172 := am (KeepBut.blk hk (g' := gb172) (o := .cells #[.int .i64 t169, .int .i64 0, .int .i64 0, .string (⟨#[]⟩ : ByteArray), .slice none 0 0] 43 (0, 0)) (bp BK172.out) NB172_0.out (by simp)); replace HK := am (KeepBut.trans (kz2 HK.out GW168.out GW172.out) hk (.inl rfl)); replace HB := am (hb); replace HI0 := am (hi); obtain ⟨hcz20_0, hcz20_1, hcz20_2, hcz20_3, hcz20_4⟩ := cs5 BK172.out; obtain ⟨hfz20_0, hfz20_1, hfz20_2, hfz20_3, hfz20_4⟩ := fs5 BK172.out) | ((with_reducible refine gate_callee (f := 74) rfl ?_); refine goesLP_ (some 28) rfl rfl Tryd.func74 (by kernel_rfl) rfl #[.pointer (some ⟨g, 0, none⟩)] rfl lz ?_; (with_reducible refine (codec_decoder_varint.calls k g s0_0 t174 t176 t177 t178 w0 _ ?side1 ?side2 A10.out).mono ?_); (case side1 => exact is99_2 HI0.out NB0_168.out NB0_172.out); (case side2 => exact hz3 HB.out (IsS99.ge HI0.out) GE168.out GE172.out); rintro e w21 ⟨he_, hi, hb, hk⟩; (first | (refine zero_ he_ ?hz_ ?_; (case hz_ => (with_reducible assumption))) | (refine pan_ he_ ?hz_ ?_; (case hz_ => (with_reducible assumption)))); replace BK168 := am (KeepBut.blk hk (g' := gb168) (o := .cells #[.int .i64 0, .int .i64 0, .int .i64 0, .string (⟨#[]⟩ : ByteArray), .slice none 0 0] 43 (0, 0)) (bf1 NB168_172.out BK168.out) NB168_0.out (by simp)); replace BK172 := am (KeepBut.blk hk (g' := gb172) (o := .cells #[.int .i64 t169, .int .i64 (wrap64 (t173)), .int .i64 0, .string (⟨#[]⟩ : ByteArray), .slice none 0 0] 43 (0, 0)) (bp BK172.out) NB172_0.out (by simp)); replace HK := am (KeepBut.trans (kz2 HK.out GW168.out GW172.out) hk (.inl rfl)); replace HB := am (hb); replace HI0 := am (hi); obtain ⟨hcz22_0, hcz22_1, hcz22_2, hcz22_3, hcz22_4⟩ := cs5 BK172.out; obtain ⟨hfz22_0, hfz22_1, hfz22_2, hfz22_3, hfz22_4⟩ := fs5 BK172.out; have hnb23 := NB168_0.out; have hnc23 := NB0_168.out; obtain ⟨hcz24_0, hcz24_1, hcz24_2, hcz24_3, hcz24_4⟩ := cs5 BK168.out; obtain ⟨hfz24_0, hfz24_1, hfz24_2, hfz24_3, hfz24_4⟩ := fs5 BK168.out))
       refine bodyPost_ret (results_cell_row rfl _ _ gb168 43 #[.int .i64 t169, .int .i64 (wrap64 (t173)), .int .i64 (wrap64 ((wrap64 (-(wrap64 (t176 / 2)))) - 1)), .string (⟨#[]⟩ : ByteArray), .slice none 0 0] (0, 0) _ rfl (by (with_reducible repeat (first | refine blk_drewN ?_ _ | refine blk_drew ?_ | refine blk_alloc ?_ _)); refine blk_put (cs := #[.int .i64 t169, .int .i64 (wrap64 (t173)), .int .i64 (wrap64 ((wrap64 (-(wrap64 (t176 / 2)))) - 1)), .string (⟨#[]⟩ : ByteArray), .slice none 0 0]) ?_ 4 _ rfl; (with_reducible repeat (first | refine blk_drewN ?_ _ | refine blk_drew ?_ | refine blk_alloc ?_ _)); refine blk_put (cs := #[.int .i64 t169, .int .i64 (wrap64 (t173)), .int .i64 (wrap64 ((wrap64 (-(wrap64 (t176 / 2)))) - 1)), .string (⟨#[]⟩ : ByteArray), .slice none 0 0]) ?_ 3 _ rfl; (with_reducible repeat (first | refine blk_drewN ?_ _ | refine blk_drew ?_ | refine blk_alloc ?_ _)); refine blk_put (cs := #[.int .i64 t169, .int .i64 (wrap64 (t173)), .int .i64 0, .string (⟨#[]⟩ : ByteArray), .slice none 0 0]) ?_ 2 _ rfl; (with_reducible repeat (first | refine blk_drewN ?_ _ | refine blk_drew ?_ | refine blk_alloc ?_ _)); refine blk_put (cs := #[.int .i64 t169, .int .i64 0, .int .i64 0, .string (⟨#[]⟩ : ByteArray), .slice none 0 0]) ?_ 1 _ rfl; (with_reducible repeat (first | refine blk_drewN ?_ _ | refine blk_drew ?_ | refine blk_alloc ?_ _)); refine blk_put (cs := #[.int .i64 0, .int .i64 0, .int .i64 0, .string (⟨#[]⟩ : ByteArray), .slice none 0 0]) ?_ 0 _ rfl; (with_reducible repeat (first | refine blk_drewN ?_ _ | refine blk_drew ?_ | refine blk_alloc ?_ _)); refine blk_far ?_ NB168_172.out _; (with_reducible repeat (first | refine blk_drewN ?_ _ | refine blk_drew ?_ | refine blk_alloc ?_ _)); refine blk_far ?_ NB168_172.out _; (with_reducible repeat (first | refine blk_drewN ?_ _ | refine blk_drew ?_ | refine blk_alloc ?_ _)); exact BK168.out) Tryd.underlying43 rfl (by kernel_rfl)) rfl ?_
       exact ⟨_, by first | rfl | (refine pan_eq ?_; assumption) | (simp [errW_none, errW_some] <;> rfl) | (simp [*, errW_none, errW_some] <;> rfl), nlz, is99_2 HI0.out NB0_168.out NB0_172.out, hz3 HB.out (IsS99.ge HI0.out) GE168.out GE172.out, kz2 HK.out GW168.out GW172.out⟩
      ·
       rw [if_neg c12] at H
       have c12b0 : ((Go.bits .and .u64 t176 1) == 1) = false := beq_eq_false_iff_ne.mpr c12
       have c12b1 : ((Go.bits .and .u64 t176 1) != 1) = true := bne_iff_ne.mpr c12
       simp only [Option.some.injEq, Prod.mk.injEq] at H
       obtain ⟨rfl, rfl, rfl, rfl, rfl, rfl, rfl⟩ := H
       go_enter Tryd.func67, Tryd.ntmps67
       go_wp2_with (first | ((with_reducible refine gate_dst (N := 4) rfl ?_); refine box_event rfl (N := 4) rfl (cs := #[.int .i64 0, .int .i64 0, .int .i64 0, .string (⟨#[]⟩ : ByteArray), .slice none 0 0]) (t := 43) gz ?_; intro gb168 hg w25 hbox hb; replace HB := am (below_step (hz1 HB.out (IsS99.ge HI0.out)) hb); have BK168 := am (hbox); have GW168 := am ((by rw [hg]; exact (keep_size (w := w) (g := g) (row := none) (kz HK.out)) : w.heap.size ≤ gb168)); have GE168 := am ((Nat.le_trans HW0.out (by rw [hg]; exact (keep_size (w := w) (g := g) (row := none) (kz HK.out)) : w.heap.size ≤ gb168) : w0.heap.size ≤ gb168)); replace HK := am (KeepBut.trans (kz HK.out) (KeepBut.of_below hb g none) (.inl rfl)); have NB0_168 := am ((by rw [hg]; exact Nat.ne_of_lt (IsS99.lt (show IsS99 w0 _ g s0_0 s0_1 from is99_0 HI0.out)) : g ≠ gb168)); have NB168_0 := am ((by rw [hg]; exact Nat.ne_of_gt (IsS99.lt (show IsS99 w0 _ g s0_0 s0_1 from is99_0 HI0.out)) : gb168 ≠ g)); replace HI0 := am (IsS99.below (is99_0 HI0.out) hb); clear hb hbox hg) | ((with_reducible refine gate_callee (f := 72) rfl ?_); refine goesLP_ (some 15) rfl rfl Tryd.func72 (by kernel_rfl) rfl #[.pointer (some ⟨g, 0, none⟩), .int .u64 9999999, .int .i64 3] rfl lz ?_; (with_reducible refine (codec_decoder_limited.calls k g s0_0 s0_1 9999999 3 t169 t170 t171 w0 _ ?side1 ?side2 A5.out).mono ?_); (case side1 => exact is99_1 HI0.out NB0_168.out); (case side2 => exact hz2 HB.out (IsS99.ge HI0.out) GE168.out); rintro e w26 ⟨he_, hi, hb, hk⟩; (first | (refine zero_ he_ ?hz_ ?_; (case hz_ => (with_reducible assumption))) | (refine pan_ he_ ?hz_ ?_; (case hz_ => (with_reducible assumption)))); replace BK168 := am (KeepBut.blk hk (g' := gb168) (o := .cells #[.int .i64 0, .int .i64 0, .int .i64 0, .string (⟨#[]⟩ : ByteArray), .slice none 0 0] 43 (0, 0)) (bz BK168.out) NB168_0.out (by simp)); replace HK := am (KeepBut.trans (kz1 HK.out GW168.out) hk (.inl rfl)); replace HB := am (hb); replace HI0 := am (hi)) | ((with_reducible refine gate_dst (N := 5) rfl ?_); refine box_event rfl (N := 5) rfl (cs := #[.int .i64 0, .int .i64 0, .int .i64 0, .string (⟨#[]⟩ : ByteArray), .slice none 0 0]) (t := 43) gz ?_; intro gb172 hg w27 hbox hb; replace HB := am (below_step (hz2 HB.out (IsS99.ge HI0.out) GE168.out) hb); have BK172 := am (hbox); have GW172 := am ((by rw [hg]; exact (keep_size (w := w) (g := g) (row := none) (kz1 HK.out GW168.out)) : w.heap.size ≤ gb172)); have GE172 := am ((Nat.le_trans HW0.out (by rw [hg]; exact (keep_size (w := w) (g := g) (row := none) (kz1 HK.out GW168.out)) : w.heap.size ≤ gb172) : w0.heap.size ≤ gb172)); replace HK := am (KeepBut.trans (kz1 HK.out GW168.out) (KeepBut.of_below hb g none) (.inl rfl)); have NB168_172 := am ((nl hg (bz BK168.out) : gb168 ≠ gb172)); have NB172_168 := am ((ng hg (bz BK168.out) : gb172 ≠ gb168)); replace BK168 := am (bw BK168.out hb); have NB0_172 := am ((by rw [hg]; exact Nat.ne_of_lt (IsS99.lt (show IsS99 w0 _ g s0_0 t170 from is99_1 HI0.out NB0_168.out)) : g ≠ gb172)); have NB172_0 := am ((by rw [hg]; exact Nat.ne_of_gt (IsS99.lt (show IsS99 w0 _ g s0_0 t170 from is99_1 HI0.out NB0_168.out)) : gb172 ≠ g)); replace HI0 := am (IsS99.below (is99_1 HI0.out NB0_168.out) hb); clear hb hbox hg; have hnb28 := NB172_168.out; have hnc28 := NB168_172.out; have hnb29 := NB172_0.out; have hnc29 := NB0_172.out; obtain ⟨hcz30_0, hcz30_1, hcz30_2, hcz30_3, hcz30_4⟩ := cs5 BK172.out; obtain ⟨hfz30_0, hfz30_1, hfz30_2, hfz30_3, hfz30_4⟩ := fs5 BK172.out) | ((with_reducible refine gate_callee (f := 73) rfl ?_); refine goesLP_ (some 18) rfl rfl Tryd.func73 (by kernel_rfl) rfl #[.pointer (some ⟨g, 0, none⟩)] rfl lz ?_; (with_reducible refine (codec_decoder_next.calls g s0_0 t170 t173 t174 t175 w0 _ ?side1 ?side2 A7.out).mono ?_); (case side1 => exact is99_2 HI0.out NB0_168.out NB0_172.out); (case side2 => exact hz3 HB.out (IsS99.ge HI0.out) GE168.out GE172.out); rintro e w31 ⟨he_, hi, hb, hk⟩; (first | (refine zero_ he_ ?hz_ ?_; (case hz_ => (with_reducible assumption))) | (refine pan_ he_ ?hz_ ?_; (case hz_ => (with_reducible assumption)))); replace BK168 := am (KeepBut.blk hk (g' := gb168) (o := .cells #[.int .i64 0, .int .i64 0, .int .i64 0, .string (⟨#[]⟩ : ByteArray), .slice none 0 0] 43 (0, 0)) (bf1 NB168_172.out BK168.out) NB168_0.out (by simp)); replace BK172 := am (KeepBut.blk hk (g' := gb172) (o := .cells #[.int .i64 t169, .int .i64 0, .int .i64 0, .string (⟨#[]⟩ : ByteArray), .slice none 0 0] 43 (0, 0)) (bp BK172.out) NB172_0.out (by simp)); replace HK := am (KeepBut.trans (kz2 HK.out GW168.out GW172.out) hk (.inl rfl)); replace HB := am (hb); replace HI0 := am (hi); obtain ⟨hcz32_0, hcz32_1, hcz32_2, hcz32_3, hcz32_4⟩ := cs5 BK172.out; obtain ⟨hfz32_0, hfz32_1, hfz32_2, hfz32_3, hfz32_4⟩ := fs5 BK172.out) | ((with_reducible refine gate_callee (f := 74) rfl ?_); refine goesLP_ (some 28) rfl rfl Tryd.func74 (by kernel_rfl) rfl #[.pointer (some ⟨g, 0, none⟩)] rfl lz ?_; (with_reducible refine (codec_decoder_varint.calls k g s0_0 t174 t176 t177 t178 w0 _ ?side1 ?side2 A10.out).mono ?_); (case side1 => exact is99_2 HI0.out NB0_168.out NB0_172.out); (case side2 => exact hz3 HB.out (IsS99.ge HI0.out) GE168.out GE172.out); rintro e w33 ⟨he_, hi, hb, hk⟩; (first | (refine zero_ he_ ?hz_ ?_; (case hz_ => (with_reducible assumption))) | (refine pan_ he_ ?hz_ ?_; (case hz_ => (with_reducible assumption)))); replace BK168 := am (KeepBut.blk hk (g' := gb168) (o := .cells #[.int .i64 0, .int .i64 0, .int .i64 0, .string (⟨#[]⟩ : ByteArray), .slice none 0 0] 43 (0, 0)) (bf1 NB168_172.out BK168.out) NB168_0.out (by simp)); replace BK172 := am (KeepBut.blk hk (g' := gb172) (o := .cells #[.int .i64 t169, .int .i64 (wrap64 (t173)), .int .i64 0, .string (⟨#[]⟩ : ByteArray), .slice none 0 0] 43 (0, 0)) (bp BK172.out) NB172_0.out (by simp)); replace HK := am (KeepBut.trans (kz2 HK.out GW168.out GW172.out) hk (.inl rfl)); replace HB := am (hb); replace HI0 := am (hi); obtain ⟨hcz34_0, hcz34_1, hcz34_2, hcz34_3, hcz34_4⟩ := cs5 BK172.out; obtain ⟨hfz34_0, hfz34_1, hfz34_2, hfz34_3, hfz34_4⟩ := fs5 BK172.out; have hnb35 := NB168_0.out; have hnc35 := NB0_168.out; obtain ⟨hcz36_0, hcz36_1, hcz36_2, hcz36_3, hcz36_4⟩ := cs5 BK168.out; obtain ⟨hfz36_0, hfz36_1, hfz36_2, hfz36_3, hfz36_4⟩ := fs5 BK168.out))
       refine bodyPost_ret (results_cell_row rfl _ _ gb168 43 #[.int .i64 t169, .int .i64 (wrap64 (t173)), .int .i64 (wrap64 (t176 / 2)), .string (⟨#[]⟩ : ByteArray), .slice none 0 0] (0, 0) _ rfl (by (with_reducible repeat (first | refine blk_drewN ?_ _ | refine blk_drew ?_ | refine blk_alloc ?_ _)); refine blk_put (cs := #[.int .i64 t169, .int .i64 (wrap64 (t173)), .int .i64 (wrap64 (t176 / 2)), .string (⟨#[]⟩ : ByteArray), .slice none 0 0]) ?_ 4 _ rfl; (with_reducible repeat (first | refine blk_drewN ?_ _ | refine blk_drew ?_ | refine blk_alloc ?_ _)); refine blk_put (cs := #[.int .i64 t169, .int .i64 (wrap64 (t173)), .int .i64 (wrap64 (t176 / 2)), .string (⟨#[]⟩ : ByteArray), .slice none 0 0]) ?_ 3 _ rfl; (with_reducible repeat (first | refine blk_drewN ?_ _ | refine blk_drew ?_ | refine blk_alloc ?_ _)); refine blk_put (cs := #[.int .i64 t169, .int .i64 (wrap64 (t173)), .int .i64 0, .string (⟨#[]⟩ : ByteArray), .slice none 0 0]) ?_ 2 _ rfl; (with_reducible repeat (first | refine blk_drewN ?_ _ | refine blk_drew ?_ | refine blk_alloc ?_ _)); refine blk_put (cs := #[.int .i64 t169, .int .i64 0, .int .i64 0, .string (⟨#[]⟩ : ByteArray), .slice none 0 0]) ?_ 1 _ rfl; (with_reducible repeat (first | refine blk_drewN ?_ _ | refine blk_drew ?_ | refine blk_alloc ?_ _)); refine blk_put (cs := #[.int .i64 0, .int .i64 0, .int .i64 0, .string (⟨#[]⟩ : ByteArray), .slice none 0 0]) ?_ 0 _ rfl; (with_reducible repeat (first | refine blk_drewN ?_ _ | refine blk_drew ?_ | refine blk_alloc ?_ _)); refine blk_far ?_ NB168_172.out _; (with_reducible repeat (first | refine blk_drewN ?_ _ | refine blk_drew ?_ | refine blk_alloc ?_ _)); exact BK168.out) Tryd.underlying43 rfl (by kernel_rfl)) rfl ?_
       exact ⟨_, by first | rfl | (refine pan_eq ?_; assumption) | (simp [errW_none, errW_some] <;> rfl) | (simp [*, errW_none, errW_some] <;> rfl), nlz, is99_2 HI0.out NB0_168.out NB0_172.out, hz3 HB.out (IsS99.ge HI0.out) GE168.out GE172.out, kz2 HK.out GW168.out GW172.out⟩
     ·
      rw [if_neg c11] at H
      have c11b0 : (t178 == 0) = false := beq_eq_false_iff_ne.mpr c11
      have c11b1 : (t178 != 0) = true := bne_iff_ne.mpr c11
      simp only [Option.some.injEq, Prod.mk.injEq] at H
      obtain ⟨rfl, rfl, rfl, rfl, rfl, rfl, rfl⟩ := H
      go_enter Tryd.func67, Tryd.ntmps67
      go_wp2_with (first | ((with_reducible refine gate_dst (N := 4) rfl ?_); refine box_event rfl (N := 4) rfl (cs := #[.int .i64 0, .int .i64 0, .int .i64 0, .string (⟨#[]⟩ : ByteArray), .slice none 0 0]) (t := 43) gz ?_; intro gb168 hg w37 hbox hb; replace HB := am (below_step (hz1 HB.out (IsS99.ge HI0.out)) hb); have BK168 := am (hbox); have GW168 := am ((by rw [hg]; exact (keep_size (w := w) (g := g) (row := none) (kz HK.out)) : w.heap.size ≤ gb168)); have GE168 := am ((Nat.le_trans HW0.out (by rw [hg]; exact (keep_size (w := w) (g := g) (row := none) (kz HK.out)) : w.heap.size ≤ gb168) : w0.heap.size ≤ gb168)); replace HK := am (KeepBut.trans (kz HK.out) (KeepBut.of_below hb g none) (.inl rfl)); have NB0_168 := am ((by rw [hg]; exact Nat.ne_of_lt (IsS99.lt (show IsS99 w0 _ g s0_0 s0_1 from is99_0 HI0.out)) : g ≠ gb168)); have NB168_0 := am ((by rw [hg]; exact Nat.ne_of_gt (IsS99.lt (show IsS99 w0 _ g s0_0 s0_1 from is99_0 HI0.out)) : gb168 ≠ g)); replace HI0 := am (IsS99.below (is99_0 HI0.out) hb); clear hb hbox hg) | ((with_reducible refine gate_callee (f := 72) rfl ?_); refine goesLP_ (some 15) rfl rfl Tryd.func72 (by kernel_rfl) rfl #[.pointer (some ⟨g, 0, none⟩), .int .u64 9999999, .int .i64 3] rfl lz ?_; (with_reducible refine (codec_decoder_limited.calls k g s0_0 s0_1 9999999 3 t169 t170 t171 w0 _ ?side1 ?side2 A5.out).mono ?_); (case side1 => exact is99_1 HI0.out NB0_168.out); (case side2 => exact hz2 HB.out (IsS99.ge HI0.out) GE168.out); rintro e w38 ⟨he_, hi, hb, hk⟩; (first | (refine zero_ he_ ?hz_ ?_; (case hz_ => (with_reducible assumption))) | (refine pan_ he_ ?hz_ ?_; (case hz_ => (with_reducible assumption)))); replace BK168 := am (KeepBut.blk hk (g' := gb168) (o := .cells #[.int .i64 0, .int .i64 0, .int .i64 0, .string (⟨#[]⟩ : ByteArray), .slice none 0 0] 43 (0, 0)) (bz BK168.out) NB168_0.out (by simp)); replace HK := am (KeepBut.trans (kz1 HK.out GW168.out) hk (.inl rfl)); replace HB := am (hb); replace HI0 := am (hi)) | ((with_reducible refine gate_dst (N := 5) rfl ?_); refine box_event rfl (N := 5) rfl (cs := #[.int .i64 0, .int .i64 0, .int .i64 0, .string (⟨#[]⟩ : ByteArray), .slice none 0 0]) (t := 43) gz ?_; intro gb172 hg w39 hbox hb; replace HB := am (below_step (hz2 HB.out (IsS99.ge HI0.out) GE168.out) hb); have BK172 := am (hbox); have GW172 := am ((by rw [hg]; exact (keep_size (w := w) (g := g) (row := none) (kz1 HK.out GW168.out)) : w.heap.size ≤ gb172)); have GE172 := am ((Nat.le_trans HW0.out (by rw [hg]; exact (keep_size (w := w) (g := g) (row := none) (kz1 HK.out GW168.out)) : w.heap.size ≤ gb172) : w0.heap.size ≤ gb172)); replace HK := am (KeepBut.trans (kz1 HK.out GW168.out) (KeepBut.of_below hb g none) (.inl rfl)); have NB168_172 := am ((nl hg (bz BK168.out) : gb168 ≠ gb172)); have NB172_168 := am ((ng hg (bz BK168.out) : gb172 ≠ gb168)); replace BK168 := am (bw BK168.out hb); have NB0_172 := am ((by rw [hg]; exact Nat.ne_of_lt (IsS99.lt (show IsS99 w0 _ g s0_0 t170 from is99_1 HI0.out NB0_168.out)) : g ≠ gb172)); have NB172_0 := am ((by rw [hg]; exact Nat.ne_of_gt (IsS99.lt (show IsS99 w0 _ g s0_0 t170 from is99_1 HI0.out NB0_168.out)) : gb172 ≠ g)); replace HI0 := am (IsS99.below (is99_1 HI0.out NB0_168.out) hb); clear hb hbox hg; have hnb40 := NB172_168.out; have hnc40 := NB168_172.out; have hnb41 := NB172_0.out; have hnc41 := NB0_172.out; obtain ⟨hcz42_0, hcz42_1, hcz42_2, hcz42_3, hcz42_4⟩ := cs5 BK172.out; obtain ⟨hfz42_0, hfz42_1, hfz42_2, hfz42_3, hfz42_4⟩ := fs5 BK172.out) | ((with_reducible refine gate_callee (f := 73) rfl ?_); refine goesLP_ (some 18) rfl rfl Tryd.func73 (by kernel_rfl) rfl #[.pointer (some ⟨g, 0, none⟩)] rfl lz ?_; (with_reducible refine (codec_decoder_next.calls g s0_0 t170 t173 t174 t175 w0 _ ?side1 ?side2 A7.out).mono ?_); (case side1 => exact is99_2 HI0.out NB0_168.out NB0_172.out); (case side2 => exact hz3 HB.out (IsS99.ge HI0.out) GE168.out GE172.out); rintro e w43 ⟨he_, hi, hb, hk⟩; (first | (refine zero_ he_ ?hz_ ?_; (case hz_ => (with_reducible assumption))) | (refine pan_ he_ ?hz_ ?_; (case hz_ => (with_reducible assumption)))); replace BK168 := am (KeepBut.blk hk (g' := gb168) (o := .cells #[.int .i64 0, .int .i64 0, .int .i64 0, .string (⟨#[]⟩ : ByteArray), .slice none 0 0] 43 (0, 0)) (bf1 NB168_172.out BK168.out) NB168_0.out (by simp)); replace BK172 := am (KeepBut.blk hk (g' := gb172) (o := .cells #[.int .i64 t169, .int .i64 0, .int .i64 0, .string (⟨#[]⟩ : ByteArray), .slice none 0 0] 43 (0, 0)) (bp BK172.out) NB172_0.out (by simp)); replace HK := am (KeepBut.trans (kz2 HK.out GW168.out GW172.out) hk (.inl rfl)); replace HB := am (hb); replace HI0 := am (hi); obtain ⟨hcz44_0, hcz44_1, hcz44_2, hcz44_3, hcz44_4⟩ := cs5 BK172.out; obtain ⟨hfz44_0, hfz44_1, hfz44_2, hfz44_3, hfz44_4⟩ := fs5 BK172.out) | ((with_reducible refine gate_callee (f := 74) rfl ?_); refine goesLP_ (some 28) rfl rfl Tryd.func74 (by kernel_rfl) rfl #[.pointer (some ⟨g, 0, none⟩)] rfl lz ?_; (with_reducible refine (codec_decoder_varint.calls k g s0_0 t174 t176 t177 t178 w0 _ ?side1 ?side2 A10.out).mono ?_); (case side1 => exact is99_2 HI0.out NB0_168.out NB0_172.out); (case side2 => exact hz3 HB.out (IsS99.ge HI0.out) GE168.out GE172.out); rintro e w45 ⟨he_, hi, hb, hk⟩; (first | (refine zero_ he_ ?hz_ ?_; (case hz_ => (with_reducible assumption))) | (refine pan_ he_ ?hz_ ?_; (case hz_ => (with_reducible assumption)))); replace BK168 := am (KeepBut.blk hk (g' := gb168) (o := .cells #[.int .i64 0, .int .i64 0, .int .i64 0, .string (⟨#[]⟩ : ByteArray), .slice none 0 0] 43 (0, 0)) (bf1 NB168_172.out BK168.out) NB168_0.out (by simp)); replace BK172 := am (KeepBut.blk hk (g' := gb172) (o := .cells #[.int .i64 t169, .int .i64 (wrap64 (t173)), .int .i64 0, .string (⟨#[]⟩ : ByteArray), .slice none 0 0] 43 (0, 0)) (bp BK172.out) NB172_0.out (by simp)); replace HK := am (KeepBut.trans (kz2 HK.out GW168.out GW172.out) hk (.inl rfl)); replace HB := am (hb); replace HI0 := am (hi)))
      refine ⟨rfl, ?_⟩
      exact ⟨_, by first | rfl | (refine pan_eq ?_; assumption) | (simp [errW_none, errW_some] <;> rfl) | (simp [*, errW_none, errW_some] <;> rfl), nlz, is99_2 HI0.out NB0_168.out NB0_172.out, hz3 HB.out (IsS99.ge HI0.out) GE168.out GE172.out, kz2 HK.out GW168.out GW172.out⟩
    ·
     rw [if_neg c9] at H
     have c9b0 : ((wrap64 (t173)) == 1) = false := beq_eq_false_iff_ne.mpr c9
     have c9b1 : ((wrap64 (t173)) != 1) = true := bne_iff_ne.mpr c9
     by_cases c46 : (wrap64 (t173)) = 2
     ·
      rw [if_pos c46] at H
      have c46b0 : ((wrap64 (t173)) == 2) = true := beq_iff_eq.mpr c46
      have c46b1 : ((wrap64 (t173)) != 2) = false := bne_eq_false_iff_eq.mpr c46
      clear c46
      replace H := Option.bind_eq_some_iff.mp H
      obtain ⟨⟨t179, t180, t181⟩, A470, H⟩ := H
      try dsimp only at H
      have A47 := am A470
      clear A470
      by_cases c48 : t181 = 0
      ·
       rw [if_pos c48] at H
       have c48b0 : (t181 == 0) = true := beq_iff_eq.mpr c48
       have c48b1 : (t181 != 0) = false := bne_eq_false_iff_eq.mpr c48
       clear c48
       replace H := it_ H
       obtain ⟨c49, H⟩ := H
       have c49b0 := eq_true c49
       have c49b1 : decide (0 ≤ t179) = true := decide_eq_true c49
       clear c49
       replace H := it_ H
       obtain ⟨c50, H⟩ := H
       have c50b0 := eq_true c50
       have c50b1 : decide ((t179 : Int).toNat ≤ 281474976710656) = true := decide_eq_true c50
       clear c50
       obtain ⟨y182, hy182⟩ : ∃ y_ : List Int, y_ = (([] : List Int)) := ⟨_, rfl⟩
       replace H : (codec_decoder_node.l0 k y182 t179 0 s0_0 t180 t169 (wrap64 (t173)) 0 (⟨#[]⟩ : ByteArray)) = some (r1, r2, r3, r4, r5, r6, r7) := by first | (rw [hy182]; with_reducible exact H) | (have H2_ := (Option.bind_some _ _).symm.trans H; rw [hy182]; with_reducible exact H2_) | (have H2_ := (Option.bind_some _ _).symm.trans H; with_reducible exact H2_) | with_reducible exact H | (rw [hy182]; exact H) | exact H
       have Ny182 := am hy182
       clear hy182
       have H' := am H
       clear H
       go_enter Tryd.func67, Tryd.ntmps67
       go_wp2_with (first | ((with_reducible refine gate_dst (N := 4) rfl ?_); refine box_event rfl (N := 4) rfl (cs := #[.int .i64 0, .int .i64 0, .int .i64 0, .string (⟨#[]⟩ : ByteArray), .slice none 0 0]) (t := 43) gz ?_; intro gb168 hg w51 hbox hb; replace HB := am (below_step (hz1 HB.out (IsS99.ge HI0.out)) hb); have BK168 := am (hbox); have GW168 := am ((by rw [hg]; exact (keep_size (w := w) (g := g) (row := none) (kz HK.out)) : w.heap.size ≤ gb168)); have GE168 := am ((Nat.le_trans HW0.out (by rw [hg]; exact (keep_size (w := w) (g := g) (row := none) (kz HK.out)) : w.heap.size ≤ gb168) : w0.heap.size ≤ gb168)); replace HK := am (KeepBut.trans (kz HK.out) (KeepBut.of_below hb g none) (.inl rfl)); have NB0_168 := am ((by rw [hg]; exact Nat.ne_of_lt (IsS99.lt (show IsS99 w0 _ g s0_0 s0_1 from is99_0 HI0.out)) : g ≠ gb168)); have NB168_0 := am ((by rw [hg]; exact Nat.ne_of_gt (IsS99.lt (show IsS99 w0 _ g s0_0 s0_1 from is99_0 HI0.out)) : gb168 ≠ g)); replace HI0 := am (IsS99.below (is99_0 HI0.out) hb); clear hb hbox hg) | ((with_reducible refine gate_callee (f := 72) rfl ?_); refine goesLP_ (some 15) rfl rfl Tryd.func72 (by kernel_rfl) rfl #[.pointer (some ⟨g, 0, none⟩), .int .u64 9999999, .int .i64 3] rfl lz ?_; (with_reducible refine (codec_decoder_limited.calls k g s0_0 s0_1 9999999 3 t169 t170 t171 w0 _ ?side1 ?side2 A5.out).mono ?_); (case side1 => exact is99_1 HI0.out NB0_168.out); (case side2 => exact hz2 HB.out (IsS99.ge HI0.out) GE168.out); rintro e w52 ⟨he_, hi, hb, hk⟩; (first | (refine zero_ he_ ?hz_ ?_; (case hz_ => (with_reducible assumption))) | (refine pan_ he_ ?hz_ ?_; (case hz_ => (with_reducible assumption)))); replace BK168 := am (KeepBut.blk hk (g' := gb168) (o := .cells #[.int .i64 0, .int .i64 0, .int .i64 0, .string (⟨#[]⟩ : ByteArray), .slice none 0 0] 43 (0, 0)) (bz BK168.out) NB168_0.out (by simp)); replace HK := am (KeepBut.trans (kz1 HK.out GW168.out) hk (.inl rfl)); replace HB := am (hb); replace HI0 := am (hi)) | ((with_reducible refine gate_dst (N := 5) rfl ?_); refine box_event rfl (N := 5) rfl (cs := #[.int .i64 0, .int .i64 0, .int .i64 0, .string (⟨#[]⟩ : ByteArray), .slice none 0 0]) (t := 43) gz ?_; intro gb172 hg w53 hbox hb; replace HB := am (below_step (hz2 HB.out (IsS99.ge HI0.out) GE168.out) hb); have BK172 := am (hbox); have GW172 := am ((by rw [hg]; exact (keep_size (w := w) (g := g) (row := none) (kz1 HK.out GW168.out)) : w.heap.size ≤ gb172)); have GE172 := am ((Nat.le_trans HW0.out (by rw [hg]; exact (keep_size (w := w) (g := g) (row := none) (kz1 HK.out GW168.out)) : w.heap.size ≤ gb172) : w0.heap.size ≤ gb172)); replace HK := am (KeepBut.trans (kz1 HK.out GW168.out) (KeepBut.of_below hb g none) (.inl rfl)); have NB168_172 := am ((nl hg (bz BK168.out) : gb168 ≠ gb172)); have NB172_168 := am ((ng hg (bz BK168.out) : gb172 ≠ gb168)); replace BK168 := am (bw BK168.out hb); have NB0_172 := am ((by rw [hg]; exact Nat.ne_of_lt (IsS99.lt (show IsS99 w0 _ g s0_0 t170 from is99_1 HI0.out NB0_168.out)) : g ≠ gb172)); have NB172_0 := am ((by rw [hg]; exact Nat.ne_of_gt (IsS99.lt (show IsS99 w0 _ g s0_0 t170 from is99_1 HI0.out NB0_168.out)) : gb172 ≠ g)); replace HI0 := am (IsS99.below (is99_1 HI0.out NB0_168.out) hb); clear hb hbox hg; have hnb54 := NB172_168.out; have hnc54 := NB168_172.out; have hnb55 := NB172_0.out; have hnc55 := NB0_172.out; obtain ⟨hcz56_0, hcz56_1, hcz56_2, hcz56_3, hcz56_4⟩ := cs5 BK172.out; obtain ⟨hfz56_0, hfz56_1, hfz56_2, hfz56_3, hfz56_4⟩ := fs5 BK172.out) | ((with_reducible refine gate_callee (f := 73) rfl ?_); refine goesLP_ (some 18) rfl rfl Tryd.func73 (by kernel_rfl) rfl #[.pointer (some ⟨g, 0, none⟩)] rfl lz ?_; (with_reducible refine (codec_decoder_next.calls g s0_0 t170 t173 t174 t175 w0 _ ?side1 ?side2 A7.out).mono ?_); (case side1 => exact is99_2 HI0.out NB0_168.out NB0_172.out); (case side2 => exact hz3 HB.out (IsS99.ge HI0.out) GE168.out GE172.out); rintro e w57 ⟨he_, hi, hb, hk⟩; (first | (refine zero_ he_ ?hz_ ?_; (case hz_ => (with_reducible assumption))) | (refine pan_ he_ ?hz_ ?_; (case hz_ => (with_reducible assumption)))); replace BK168 := am (KeepBut.blk hk (g' := gb168) (o := .cells #[.int .i64 0, .int .i64 0, .int .i64 0, .string (⟨#[]⟩ : ByteArray), .slice none 0 0] 43 (0, 0)) (bf1 NB168_172.out BK168.out) NB168_0.out (by simp)); replace BK172 := am (KeepBut.blk hk (g' := gb172) (o := .cells #[.int .i64 t169, .int .i64 0, .int .i64 0, .string (⟨#[]⟩ : ByteArray), .slice none 0 0] 43 (0, 0)) (bp BK172.out) NB172_0.out (by simp)); replace HK := am (KeepBut.trans (kz2 HK.out GW168.out GW172.out) hk (.inl rfl)); replace HB := am (hb); replace HI0 := am (hi); obtain ⟨hcz58_0, hcz58_1, hcz58_2, hcz58_3, hcz58_4⟩ := cs5 BK172.out; obtain ⟨hfz58_0, hfz58_1, hfz58_2, hfz58_3, hfz58_4⟩ := fs5 BK172.out) | ((with_reducible refine gate_callee (f := 72) rfl ?_); refine goesLP_ (some 44) rfl rfl Tryd.func72 (by kernel_rfl) rfl #[.pointer (some ⟨g, 0, none⟩), .int .u64 2000, .int .i64 5] rfl lz ?_; (with_reducible refine (codec_decoder_limited.calls k g s0_0 t174 2000 5 t179 t180 t181 w0 _ ?side1 ?side2 A47.out).mono ?_); (case side1 => exact is99_2 HI0.out NB0_168.out NB0_172.out); (case side2 => exact hz3 HB.out (IsS99.ge HI0.out) GE168.out GE172.out); rintro e w59 ⟨he_, hi, hb, hk⟩; (first | (refine zero_ he_ ?hz_ ?_; (case hz_ => (with_reducible assumption))) | (refine pan_ he_ ?hz_ ?_; (case hz_ => (with_reducible assumption)))); replace BK168 := am (KeepBut.blk hk (g' := gb168) (o := .cells #[.int .i64 0, .int .i64 0, .int .i64 0, .string (⟨#[]⟩ : ByteArray), .slice none 0 0] 43 (0, 0)) (bf1 NB168_172.out BK168.out) NB168_0.out (by simp)); replace BK172 := am (KeepBut.blk hk (g' := gb172) (o := .cells #[.int .i64 t169, .int .i64 (wrap64 (t173)), .int .i64 0, .string (⟨#[]⟩ : ByteArray), .slice none 0 0] 43 (0, 0)) (bp BK172.out) NB172_0.out (by simp)); replace HK := am (KeepBut.trans (kz2 HK.out GW168.out GW172.out) hk (.inl rfl)); replace HB := am (hb); replace HI0 := am (hi)) | ((with_reducible refine gate_dst (N := 46) rfl ?_); refine make0_ (Kd.int .u8) _ 5 rfl (N := 46) rfl 24 _ _ rfl t179 rfl rfl Tryd.underlying24 (.int .u8 0) 1 info5 (ok := fun _ => True) (okp := fun _ => True) (fun _ hk => hk) trivial (of_decide_eq_true az) (Nat.le_trans (Nat.mul_le_mul_right _ (of_decide_eq_true az : t179.toNat ≤ 281474976710656)) (by omega)) (by omega) (Below.refl _ _) (Nat.le_refl _) ?_; intro v183 w60 ho61 hb hg_ hnew_; clear hg_ hnew_; (first | rw [← Ny182.out] at ho61 | (simp only [Int.reduceToNat] at ho61; rw [← Ny182.out] at ho61)); have HO184 := am (Kd.R_lower ho61 (keep_size (w := w) (g := g) (row := none) (kz2 HK.out GW168.out GW172.out))); replace BK168 := am (bw BK168.out hb); replace BK172 := am (bw BK172.out hb); replace HK := am (KeepBut.trans (kz2 HK.out GW168.out GW172.out) (KeepBut.of_below hb g none) (.inl rfl)); replace HB := am (below_step (hz3 HB.out (IsS99.ge HI0.out) GE168.out GE172.out) hb); replace HI0 := am (IsS99.below (is99_2 HI0.out NB0_168.out NB0_172.out) hb); clear hb ho61))
       go_loopg [8, 48] k (fun kq v8 v48 w' => ∃ (x8_1 : List Int) (x48_1 : Int) (x1001_1 : Int), v48 = .int .i64 x48_1 ∧ Aside0 (codec_decoder_node.l0 kq x8_1 t179 x48_1 s0_0 x1001_1 t169 (wrap64 (t173)) 0 (⟨#[]⟩ : ByteArray) = some (r1, r2, r3, r4, r5, r6, r7)) ∧ Aside0 (kq ≤ k) ∧ Aside0 (Kd.R (Kd.int .u8) 5 w' w.heap.size (fun _ => True) v8 x8_1) ∧ Aside0 (w'.heap[gb168]? = some (.cells #[.int .i64 0, .int .i64 0, .int .i64 0, .string (⟨#[]⟩ : ByteArray), (.slice none 0 0)] 43 (0, 0))) ∧ Aside0 (w'.heap[gb172]? = some (.cells #[.int .i64 t169, .int .i64 (wrap64 (t173)), .int .i64 0, .string (⟨#[]⟩ : ByteArray), (.slice none 0 0)] 43 (0, 0))) ∧ Aside0 (IsS99 w0 w' g s0_0 x1001_1) ∧ Aside0 (KeepBut w w' g none) ∧ Aside0 (Below w0.heap.size w0 w'))
       case atStart => exact ⟨(y182), (0), (t180), rfz, H', ⟨Nat.le_refl _⟩, ⟨rz HO184.out⟩, ⟨by (with_reducible repeat (first | refine blk_drewN ?_ _ | refine blk_drew ?_ | refine blk_alloc ?_ _)); exact BK168.out⟩, ⟨by (with_reducible repeat (first | refine blk_drewN ?_ _ | refine blk_drew ?_ | refine blk_alloc ?_ _)); exact BK172.out⟩, ⟨is99_2 HI0.out NB0_168.out NB0_172.out⟩, ⟨kz2 HK.out GW168.out GW172.out⟩, ⟨hz3 HB.out (IsS99.ge HI0.out) GE168.out GE172.out⟩⟩
       case round =>
        clear H'
        obtain ⟨x8_1, x48_1, x1001_1, rfl, HA, HK1, HO_8, BK168, BK172, HI0, HK, HB⟩ := hrel
        cases gk with
        | zero => exact absurd HA.out (by simp [codec_decoder_node.l0])
        | succ k1 =>
         have H := HA.out
         clear HA
         simp only [codec_decoder_node.l0] at H
         by_cases c62 : x48_1 < t179
         ·
          rw [if_pos c62] at H
          have c62b0 : decide (x48_1 < t179) = true := decide_eq_true c62
          clear c62
          replace H := Option.bind_eq_some_iff.mp H
          obtain ⟨⟨t185, t186, t187⟩, A630, H⟩ := H
          try dsimp only at H
          have A63 := am A630
          clear A630
          by_cases c64 : t187 = 0
          ·
           rw [if_pos c64] at H
           have c64b0 : (t187 == 0) = true := beq_iff_eq.mpr c64
           have c64b1 : (t187 != 0) = false := bne_eq_false_iff_eq.mpr c64
           clear c64
           replace H := it_ H
           obtain ⟨c65, H⟩ := H
           have LMc65 := am c65
           clear c65
           obtain ⟨y188, hy188⟩ : ∃ y_ : List Int, y_ = (x8_1 ++ [t185]) := ⟨_, rfl⟩
           replace H : (codec_decoder_node.l0 k1 y188 t179 (wrap64 (x48_1 + 1)) s0_0 t186 t169 (wrap64 (t173)) 0 (⟨#[]⟩ : ByteArray)) = some (r1, r2, r3, r4, r5, r6, r7) := by first | (rw [hy188]; with_reducible exact H) | (have H2_ := (Option.bind_some _ _).symm.trans H; rw [hy188]; with_reducible exact H2_) | (have H2_ := (Option.bind_some _ _).symm.trans H; with_reducible exact H2_) | with_reducible exact H | (rw [hy188]; exact H) | exact H
           have Ny188 := am hy188
           clear hy188
           have H' := am H
           clear H
           go_wp2_with (first | ((with_reducible refine gate_callee (f := 73) rfl ?_); refine goesLP_ (some 52) rfl rfl Tryd.func73 (by kernel_rfl) rfl #[.pointer (some ⟨g, 0, none⟩)] rfl lz ?_; (with_reducible refine (codec_decoder_next.calls g s0_0 x1001_1 t185 t186 t187 w0 _ ?side1 ?side2 A63.out).mono ?_); (case side1 => exact is99_2 HI0.out NB0_168.out NB0_172.out); (case side2 => exact hz3 HB.out (IsS99.ge HI0.out) GE168.out GE172.out); rintro e w66 ⟨he_, hi, hb, hk⟩; (first | (refine zero_ he_ ?hz_ ?_; (case hz_ => (with_reducible assumption))) | (refine pan_ he_ ?hz_ ?_; (case hz_ => (with_reducible assumption)))); replace HO_8 := am (Kd.R_mono (Kd.R_keep (IsS99.apart (show IsS99 w0 _ g s0_0 x1001_1 from is99_2 HI0.out NB0_168.out NB0_172.out) (rz HO_8.out) (by decide)) hk (fun _ h => h.2)) (fun _ h => h.1)); replace BK168 := am (KeepBut.blk hk (g' := gb168) (o := .cells #[.int .i64 0, .int .i64 0, .int .i64 0, .string (⟨#[]⟩ : ByteArray), .slice none 0 0] 43 (0, 0)) (bz BK168.out) NB168_0.out (by simp)); replace BK172 := am (KeepBut.blk hk (g' := gb172) (o := .cells #[.int .i64 t169, .int .i64 (wrap64 (t173)), .int .i64 0, .string (⟨#[]⟩ : ByteArray), .slice none 0 0] 43 (0, 0)) (bz BK172.out) NB172_0.out (by simp)); replace HK := am (KeepBut.trans (kz2 HK.out GW168.out GW172.out) hk (.inl rfl)); replace HB := am (hb); replace HI0 := am (hi)) | ((with_reducible refine gate_builtin (b := .append) (xs := #[.tmp 50, .tmp 53]) rfl ?_); at_builtin; refine Kd.R_append (Kd.int .u8) w.heap.size rfl (.tmp 50) (.tmp 53) 24 5 (.int .u8 0) 1 rfl Tryd.underlying24 info5 rfl (by decide) (by omega) u8 x8_1 t185 [.int .u8 t185] (fun _ => True) (fun _ => False) rfl rfl ?aP (fun _ hk => hk.elim) ?aF ?aO (Below.refl _ _) ?aS ?aL ?_; (case aP => exact rfl); (case aF => exact (fun _ _ => trivial)); (case aO => exact (rz HO_8.out)); (case aS => exact (keep_size (w := w) (g := g) (row := none) (kz2 HK.out GW168.out GW172.out))); (case aL => have := LMc65.out; omega); intro v189 w67 ho hb hg hat; rw [← Ny188.out] at ho; replace BK168 := am (blk_grown (g := gb168) (o := .cells #[.int .i64 0, .int .i64 0, .int .i64 0, .string (⟨#[]⟩ : ByteArray), .slice none 0 0] 43 (0, 0)) (bz BK168.out) hg (Kd.R_ne HO_8.out BK168.out (by decide))); replace BK172 := am (blk_grown (g := gb172) (o := .cells #[.int .i64 t169, .int .i64 (wrap64 (t173)), .int .i64 0, .string (⟨#[]⟩ : ByteArray), .slice none 0 0] 43 (0, 0)) (bz BK172.out) hg (Kd.R_ne HO_8.out BK172.out (by decide))); replace HB := am (below_weaken (hz3 HB.out (IsS99.ge HI0.out) GE168.out GE172.out) HL.out hb); replace HI0 := am (IsS99.grown (is99_2 HI0.out NB0_168.out NB0_172.out) hg (IsS99.own_ne HI0.out HO_8.out (by decide))); replace HK := am (KeepBut.trans (kz2 HK.out GW168.out GW172.out) (KeepBut.of_grown hg g) (Kd.R_base2 HO_8.out)); have HO190 := am (ho); clear HO_8; clear ho hb hg hat))
           go_roundg k1
           case measure => have := HK1.out; omega
           case rel => exact ⟨(y188), (wrap64 (x48_1 + 1)), (t186), rfz, H', ⟨by have := HK1.out; omega⟩, ⟨rz HO190.out⟩, ⟨by (with_reducible repeat (first | refine blk_drewN ?_ _ | refine blk_drew ?_ | refine blk_alloc ?_ _)); exact BK168.out⟩, ⟨by (with_reducible repeat (first | refine blk_drewN ?_ _ | refine blk_drew ?_ | refine blk_alloc ?_ _)); exact BK172.out⟩, ⟨is99_2 HI0.out NB0_168.out NB0_172.out⟩, ⟨kz2 HK.out GW168.out GW172.out⟩, ⟨hz3 HB.out (IsS99.ge HI0.out) GE168.out GE172.out⟩⟩
          ·
           rw [if_neg c64] at H
           have c64b0 : (t187 == 0) = false := beq_eq_false_iff_ne.mpr c64
           have c64b1 : (t187 != 0) = true := bne_iff_ne.mpr c64
           simp only [Option.some.injEq, Prod.mk.injEq] at H
           obtain ⟨rfl, rfl, rfl, rfl, rfl, rfl, rfl⟩ := H
           go_wp2_with (first | ((with_reducible refine gate_callee (f := 73) rfl ?_); refine goesLP_ (some 52) rfl rfl Tryd.func73 (by kernel_rfl) rfl #[.pointer (some ⟨g, 0, none⟩)] rfl lz ?_; (with_reducible refine (codec_decoder_next.calls g s0_0 x1001_1 t185 t186 t187 w0 _ ?side1 ?side2 A63.out).mono ?_); (case side1 => exact is99_2 HI0.out NB0_168.out NB0_172.out); (case side2 => exact hz3 HB.out (IsS99.ge HI0.out) GE168.out GE172.out); rintro e w68 ⟨he_, hi, hb, hk⟩; (first | (refine zero_ he_ ?hz_ ?_; (case hz_ => (with_reducible assumption))) | (refine pan_ he_ ?hz_ ?_; (case hz_ => (with_reducible assumption)))); replace HO_8 := am (Kd.R_mono (Kd.R_keep (IsS99.apart (show IsS99 w0 _ g s0_0 x1001_1 from is99_2 HI0.out NB0_168.out NB0_172.out) (rz HO_8.out) (by decide)) hk (fun _ h => h.2)) (fun _ h => h.1)); replace BK168 := am (KeepBut.blk hk (g' := gb168) (o := .cells #[.int .i64 0, .int .i64 0, .int .i64 0, .string (⟨#[]⟩ : ByteArray), .slice none 0 0] 43 (0, 0)) (bz BK168.out) NB168_0.out (by simp)); replace BK172 := am (KeepBut.blk hk (g' := gb172) (o := .cells #[.int .i64 t169, .int .i64 (wrap64 (t173)), .int .i64 0, .string (⟨#[]⟩ : ByteArray), .slice none 0 0] 43 (0, 0)) (bz BK172.out) NB172_0.out (by simp)); replace HK := am (KeepBut.trans (kz2 HK.out GW168.out GW172.out) hk (.inl rfl)); replace HB := am (hb); replace HI0 := am (hi)))
           refine ⟨rfl, ?_⟩
           exact ⟨_, by first | rfl | (refine pan_eq ?_; assumption) | (simp [errW_none, errW_some] <;> rfl) | (simp [*, errW_none, errW_some] <;> rfl), nlz, is99_2 HI0.out NB0_168.out NB0_172.out, hz3 HB.out (IsS99.ge HI0.out) GE168.out GE172.out, kz2 HK.out GW168.out GW172.out⟩
         ·
          rw [if_neg c62] at H
          have c62b0 : decide (x48_1 < t179) = false := decide_eq_false c62
          clear c62
          simp only [Option.some.injEq, Prod.mk.injEq] at H
          obtain ⟨rfl, rfl, rfl, rfl, rfl, rfl, rfl⟩ := H
          have hcv69 := own_string (P := Tryd.prog) Tryd.underlying24 Tryd.underlying5 Tryd.underlying9 (Kd.own_of_R HO_8.out)
          have hnb70 := NB172_168.out
          have hnc70 := NB168_172.out
          have hnb71 := NB172_0.out
          have hnc71 := NB0_172.out
          have hcz72_0 : wr.cell? ⟨gb172, 0, none⟩ = some (.int .i64 t169) := (blk_cell BK172.out 0).trans rfl
          have hcz72_1 : wr.cell? ⟨gb172, 1, none⟩ = some (.int .i64 (wrap64 (t173))) := (blk_cell BK172.out 1).trans rfl
          have hcz72_2 : wr.cell? ⟨gb172, 2, none⟩ = some (.int .i64 0) := (blk_cell BK172.out 2).trans rfl
          have hcz72_3 : wr.cell? ⟨gb172, 3, none⟩ = some (.string (⟨#[]⟩ : ByteArray)) := (blk_cell BK172.out 3).trans rfl
          have hcz72_4 : wr.cell? ⟨gb172, 4, none⟩ = some (.slice none 0 0) := (blk_cell BK172.out 4).trans rfl
          have hfz72_0 := blk_frozen BK172.out 0
          have hfz72_1 := blk_frozen BK172.out 1
          have hfz72_2 := blk_frozen BK172.out 2
          have hfz72_3 := blk_frozen BK172.out 3
          have hfz72_4 := blk_frozen BK172.out 4
          have hnb73 := NB168_0.out
          have hnc73 := NB0_168.out
          have hcz74_0 : wr.cell? ⟨gb168, 0, none⟩ = some (.int .i64 0) := (blk_cell BK168.out 0).trans rfl
          have hcz74_1 : wr.cell? ⟨gb168, 1, none⟩ = some (.int .i64 0) := (blk_cell BK168.out 1).trans rfl
          have hcz74_2 : wr.cell? ⟨gb168, 2, none⟩ = some (.int .i64 0) := (blk_cell BK168.out 2).trans rfl
          have hcz74_3 : wr.cell? ⟨gb168, 3, none⟩ = some (.string (⟨#[]⟩ : ByteArray)) := (blk_cell BK168.out 3).trans rfl
          have hcz74_4 : wr.cell? ⟨gb168, 4, none⟩ = some (.slice none 0 0) := (blk_cell BK168.out 4).trans rfl
          have hfz74_0 := blk_frozen BK168.out 0
          have hfz74_1 := blk_frozen BK168.out 1
          have hfz74_2 := blk_frozen BK168.out 2
          have hfz74_3 := blk_frozen BK168.out 3
          have hfz74_4 := blk_frozen BK168.out 4
          go_wp2
          refine bodyPost_ret (results_cell_row rfl _ _ gb168 43 #[.int .i64 t169, .int .i64 (wrap64 (t173)), .int .i64 0, .string (strOfNums x8_1), .slice none 0 0] (0, 0) _ rfl (by (with_reducible repeat (first | refine blk_drewN ?_ _ | refine blk_drew ?_ | refine blk_alloc ?_ _)); refine blk_put (cs := #[.int .i64 t169, .int .i64 (wrap64 (t173)), .int .i64 0, .string (strOfNums x8_1), .slice none 0 0]) ?_ 4 _ rfl; (with_reducible repeat (first | refine blk_drewN ?_ _ | refine blk_drew ?_ | refine blk_alloc ?_ _)); refine blk_put (cs := #[.int .i64 t169, .int .i64 (wrap64 (t173)), .int .i64 0, .string (⟨#[]⟩ : ByteArray), .slice none 0 0]) ?_ 3 _ rfl; (with_reducible repeat (first | refine blk_drewN ?_ _ | refine blk_drew ?_ | refine blk_alloc ?_ _)); refine blk_put (cs := #[.int .i64 t169, .int .i64 (wrap64 (t173)), .int .i64 0, .string (⟨#[]⟩ : ByteArray), .slice none 0 0]) ?_ 2 _ rfl; (with_reducible repeat (first | refine blk_drewN ?_ _ | refine blk_drew ?_ | refine blk_alloc ?_ _)); refine blk_put (cs := #[.int .i64 t169, .int .i64 0, .int .i64 0, .string (⟨#[]⟩ : ByteArray), .slice none 0 0]) ?_ 1 _ rfl; (with_reducible repeat (first | refine blk_drewN ?_ _ | refine blk_drew ?_ | refine blk_alloc ?_ _)); refine blk_put (cs := #[.int .i64 0, .int .i64 0, .int .i64 0, .string (⟨#[]⟩ : ByteArray), .slice none 0 0]) ?_ 0 _ rfl; (with_reducible repeat (first | refine blk_drewN ?_ _ | refine blk_drew ?_ | refine blk_alloc ?_ _)); refine blk_far ?_ NB168_172.out _; (with_reducible repeat (first | refine blk_drewN ?_ _ | refine blk_drew ?_ | refine blk_alloc ?_ _)); exact BK168.out) Tryd.underlying43 rfl (by kernel_rfl)) rfl ?_
          exact ⟨_, by first | rfl | (refine pan_eq ?_; assumption) | (simp [errW_none, errW_some] <;> rfl) | (simp [*, errW_none, errW_some] <;> rfl), nlz, is99_2 HI0.out NB0_168.out NB0_172.out, hz3 HB.out (IsS99.ge HI0.out) GE168.out GE172.out, kz2 HK.out GW168.out GW172.out⟩
      ·
       rw [if_neg c48] at H
       have c48b0 : (t181 == 0) = false := beq_eq_false_iff_ne.mpr c48
       have c48b1 : (t181 != 0) = true := bne_iff_ne.mpr c48
       simp only [Option.some.injEq, Prod.mk.injEq] at H
       obtain ⟨rfl, rfl, rfl, rfl, rfl, rfl, rfl⟩ := H
       go_enter Tryd.func67, Tryd.ntmps67
       go_wp2_with (first | ((with_reducible refine gate_dst (N := 4) rfl ?_); refine box_event rfl (N := 4) rfl (cs := #[.int .i64 0, .int .i64 0, .int .i64 0, .string (⟨#[]⟩ : ByteArray), .slice none 0 0]) (t := 43) gz ?_; intro gb168 hg w75 hbox hb; replace HB := am (below_step (hz1 HB.out (IsS99.ge HI0.out)) hb); have BK168 := am (hbox); have GW168 := am ((by rw [hg]; exact (keep_size (w := w) (g := g) (row := none) (kz HK.out)) : w.heap.size ≤ gb168)); have GE168 := am ((Nat.le_trans HW0.out (by rw [hg]; exact (keep_size (w := w) (g := g) (row := none) (kz HK.out)) : w.heap.size ≤ gb168) : w0.heap.size ≤ gb168)); replace HK := am (KeepBut.trans (kz HK.out) (KeepBut.of_below hb g none) (.inl rfl)); have NB0_168 := am ((by rw [hg]; exact Nat.ne_of_lt (IsS99.lt (show IsS99 w0 _ g s0_0 s0_1 from is99_0 HI0.out)) : g ≠ gb168)); have NB168_0 := am ((by rw [hg]; exact Nat.ne_of_gt (IsS99.lt (show IsS99 w0 _ g s0_0 s0_1 from is99_0 HI0.out)) : gb168 ≠ g)); replace HI0 := am (IsS99.below (is99_0 HI0.out) hb); clear hb hbox hg) | ((with_reducible refine gate_callee (f := 72) rfl ?_); refine goesLP_ (some 15) rfl rfl Tryd.func72 (by kernel_rfl) rfl #[.pointer (some ⟨g, 0, none⟩), .int .u64 9999999, .int .i64 3] rfl lz ?_; (with_reducible refine (codec_decoder_limited.calls k g s0_0 s0_1 9999999 3 t169 t170 t171 w0 _ ?side1 ?side2 A5.out).mono ?_); (case side1 => exact is99_1 HI0.out NB0_168.out); (case side2 => exact hz2 HB.out (IsS99.ge HI0.out) GE168.out); rintro e w76 ⟨he_, hi, hb, hk⟩; (first | (refine zero_ he_ ?hz_ ?_; (case hz_ => (with_reducible assumption))) | (refine pan_ he_ ?hz_ ?_; (case hz_ => (with_reducible assumption)))); replace BK168 := am (KeepBut.blk hk (g' := gb168) (o := .cells #[.int .i64 0, .int .i64 0, .int .i64 0, .string (⟨#[]⟩ : ByteArray), .slice none 0 0] 43 (0, 0)) (bz BK168.out) NB168_0.out (by simp)); replace HK := am (KeepBut.trans (kz1 HK.out GW168.out) hk (.inl rfl)); replace HB := am (hb); replace HI0 := am (hi)) | ((with_reducible refine gate_dst (N := 5) rfl ?_); refine box_event rfl (N := 5) rfl (cs := #[.int .i64 0, .int .i64 0, .int .i64 0, .string (⟨#[]⟩ : ByteArray), .slice none 0 0]) (t := 43) gz ?_; intro gb172 hg w77 hbox hb; replace HB := am (below_step (hz2 HB.out (IsS99.ge HI0.out) GE168.out) hb); have BK172 := am (hbox); have GW172 := am ((by rw [hg]; exact (keep_size (w := w) (g := g) (row := none) (kz1 HK.out GW168.out)) : w.heap.size ≤ gb172)); have GE172 := am ((Nat.le_trans HW0.out (by rw [hg]; exact (keep_size (w := w) (g := g) (row := none) (kz1 HK.out GW168.out)) : w.heap.size ≤ gb172) : w0.heap.size ≤ gb172)); replace HK := am (KeepBut.trans (kz1 HK.out GW168.out) (KeepBut.of_below hb g none) (.inl rfl)); have NB168_172 := am ((nl hg (bz BK168.out) : gb168 ≠ gb172)); have NB172_168 := am ((ng hg (bz BK168.out) : gb172 ≠ gb168)); replace BK168 := am (bw BK168.out hb); have NB0_172 := am ((by rw [hg]; exact Nat.ne_of_lt (IsS99.lt (show IsS99 w0 _ g s0_0 t170 from is99_1 HI0.out NB0_168.out)) : g ≠ gb172)); have NB172_0 := am ((by rw [hg]; exact Nat.ne_of_gt (IsS99.lt (show IsS99 w0 _ g s0_0 t170 from is99_1 HI0.out NB0_168.out)) : gb172 ≠ g)); replace HI0 := am (IsS99.below (is99_1 HI0.out NB0_168.out) hb); clear hb hbox hg; have hnb78 := NB172_168.out; have hnc78 := NB168_172.out; have hnb79 := NB172_0.out; have hnc79 := NB0_172.out; obtain ⟨hcz80_0, hcz80_1, hcz80_2, hcz80_3, hcz80_4⟩ := cs5 BK172.out; obtain ⟨hfz80_0, hfz80_1, hfz80_2, hfz80_3, hfz80_4⟩ := fs5 BK172.out) | ((with_reducible refine gate_callee (f := 73) rfl ?_); refine goesLP_ (some 18) rfl rfl Tryd.func73 (by kernel_rfl) rfl #[.pointer (some ⟨g, 0, none⟩)] rfl lz ?_; (with_reducible refine (codec_decoder_next.calls g s0_0 t170 t173 t174 t175 w0 _ ?side1 ?side2 A7.out).mono ?_); (case side1 => exact is99_2 HI0.out NB0_168.out NB0_172.out); (case side2 => exact hz3 HB.out (IsS99.ge HI0.out) GE168.out GE172.out); rintro e w81 ⟨he_, hi, hb, hk⟩; (first | (refine zero_ he_ ?hz_ ?_; (case hz_ => (with_reducible assumption))) | (refine pan_ he_ ?hz_ ?_; (case hz_ => (with_reducible assumption)))); replace BK168 := am (KeepBut.blk hk (g' := gb168) (o := .cells #[.int .i64 0, .int .i64 0, .int .i64 0, .string (⟨#[]⟩ : ByteArray), .slice none 0 0] 43 (0, 0)) (bf1 NB168_172.out BK168.out) NB168_0.out (by simp)); replace BK172 := am (KeepBut.blk hk (g' := gb172) (o := .cells #[.int .i64 t169, .int .i64 0, .int .i64 0, .string (⟨#[]⟩ : ByteArray), .slice none 0 0] 43 (0, 0)) (bp BK172.out) NB172_0.out (by simp)); replace HK := am (KeepBut.trans (kz2 HK.out GW168.out GW172.out) hk (.inl rfl)); replace HB := am (hb); replace HI0 := am (hi); obtain ⟨hcz82_0, hcz82_1, hcz82_2, hcz82_3, hcz82_4⟩ := cs5 BK172.out; obtain ⟨hfz82_0, hfz82_1, hfz82_2, hfz82_3, hfz82_4⟩ := fs5 BK172.out) | ((with_reducible refine gate_callee (f := 72) rfl ?_); refine goesLP_ (some 44) rfl rfl Tryd.func72 (by kernel_rfl) rfl #[.pointer (some ⟨g, 0, none⟩), .int .u64 2000, .int .i64 5] rfl lz ?_; (with_reducible refine (codec_decoder_limited.calls k g s0_0 t174 2000 5 t179 t180 t181 w0 _ ?side1 ?side2 A47.out).mono ?_); (case side1 => exact is99_2 HI0.out NB0_168.out NB0_172.out); (case side2 => exact hz3 HB.out (IsS99.ge HI0.out) GE168.out GE172.out); rintro e w83 ⟨he_, hi, hb, hk⟩; (first | (refine zero_ he_ ?hz_ ?_; (case hz_ => (with_reducible assumption))) | (refine pan_ he_ ?hz_ ?_; (case hz_ => (with_reducible assumption)))); replace BK168 := am (KeepBut.blk hk (g' := gb168) (o := .cells #[.int .i64 0, .int .i64 0, .int .i64 0, .string (⟨#[]⟩ : ByteArray), .slice none 0 0] 43 (0, 0)) (bf1 NB168_172.out BK168.out) NB168_0.out (by simp)); replace BK172 := am (KeepBut.blk hk (g' := gb172) (o := .cells #[.int .i64 t169, .int .i64 (wrap64 (t173)), .int .i64 0, .string (⟨#[]⟩ : ByteArray), .slice none 0 0] 43 (0, 0)) (bp BK172.out) NB172_0.out (by simp)); replace HK := am (KeepBut.trans (kz2 HK.out GW168.out GW172.out) hk (.inl rfl)); replace HB := am (hb); replace HI0 := am (hi)))
       refine ⟨rfl, ?_⟩
       exact ⟨_, by first | rfl | (refine pan_eq ?_; assumption) | (simp [errW_none, errW_some] <;> rfl) | (simp [*, errW_none, errW_some] <;> rfl), nlz, is99_2 HI0.out NB0_168.out NB0_172.out, hz3 HB.out (IsS99.ge HI0.out) GE168.out GE172.out, kz2 HK.out GW168.out GW172.out⟩
     ·
      rw [if_neg c46] at H
      have c46b0 : ((wrap64 (t173)) == 2) = false := beq_eq_false_iff_ne.mpr c46
      have c46b1 : ((wrap64 (t173)) != 2) = true := bne_iff_ne.mpr c46
      by_cases c84 : (wrap64 (t173)) = 3
      ·
       rw [if_pos c84] at H
       have c84b0 : ((wrap64 (t173)) == 3) = true := beq_iff_eq.mpr c84
       have c84b1 : ((wrap64 (t173)) != 3) = false := bne_eq_false_iff_eq.mpr c84
       clear c84
       replace H := Option.bind_eq_some_iff.mp H
       obtain ⟨⟨t191, t192, t193⟩, A850, H⟩ := H
       try dsimp only at H
       have A85 := am A850
       clear A850
       by_cases c86 : t193 = 0
       ·
        rw [if_pos c86] at H
        have c86b0 : (t193 == 0) = true := beq_iff_eq.mpr c86
        have c86b1 : (t193 != 0) = false := bne_eq_false_iff_eq.mpr c86
        clear c86
        have H' := am H
        clear H
        go_enter Tryd.func67, Tryd.ntmps67
        go_wp2_with (first | ((with_reducible refine gate_dst (N := 4) rfl ?_); refine box_event rfl (N := 4) rfl (cs := #[.int .i64 0, .int .i64 0, .int .i64 0, .string (⟨#[]⟩ : ByteArray), .slice none 0 0]) (t := 43) gz ?_; intro gb168 hg w87 hbox hb; replace HB := am (below_step (hz1 HB.out (IsS99.ge HI0.out)) hb); have BK168 := am (hbox); have GW168 := am ((by rw [hg]; exact (keep_size (w := w) (g := g) (row := none) (kz HK.out)) : w.heap.size ≤ gb168)); have GE168 := am ((Nat.le_trans HW0.out (by rw [hg]; exact (keep_size (w := w) (g := g) (row := none) (kz HK.out)) : w.heap.size ≤ gb168) : w0.heap.size ≤ gb168)); replace HK := am (KeepBut.trans (kz HK.out) (KeepBut.of_below hb g none) (.inl rfl)); have NB0_168 := am ((by rw [hg]; exact Nat.ne_of_lt (IsS99.lt (show IsS99 w0 _ g s0_0 s0_1 from is99_0 HI0.out)) : g ≠ gb168)); have NB168_0 := am ((by rw [hg]; exact Nat.ne_of_gt (IsS99.lt (show IsS99 w0 _ g s0_0 s0_1 from is99_0 HI0.out)) : gb168 ≠ g)); replace HI0 := am (IsS99.below (is99_0 HI0.out) hb); clear hb hbox hg) | ((with_reducible refine gate_callee (f := 72) rfl ?_); refine goesLP_ (some 15) rfl rfl Tryd.func72 (by kernel_rfl) rfl #[.pointer (some ⟨g, 0, none⟩), .int .u64 9999999, .int .i64 3] rfl lz ?_; (with_reducible refine (codec_decoder_limited.calls k g s0_0 s0_1 9999999 3 t169 t170 t171 w0 _ ?side1 ?side2 A5.out).mono ?_); (case side1 => exact is99_1 HI0.out NB0_168.out); (case side2 => exact hz2 HB.out (IsS99.ge HI0.out) GE168.out); rintro e w88 ⟨he_, hi, hb, hk⟩; (first | (refine zero_ he_ ?hz_ ?_; (case hz_ => (with_reducible assumption))) | (refine pan_ he_ ?hz_ ?_; (case hz_ => (with_reducible assumption)))); replace BK168 := am (KeepBut.blk hk (g' := gb168) (o := .cells #[.int .i64 0, .int .i64 0, .int .i64 0, .string (⟨#[]⟩ : ByteArray), .slice none 0 0] 43 (0, 0)) (bz BK168.out) NB168_0.out (by simp)); replace HK := am (KeepBut.trans (kz1 HK.out GW168.out) hk (.inl rfl)); replace HB := am (hb); replace HI0 := am (hi)) | ((with_reducible refine gate_dst (N := 5) rfl ?_); refine box_event rfl (N := 5) rfl (cs := #[.int .i64 0, .int .i64 0, .int .i64 0, .string (⟨#[]⟩ : ByteArray), .slice none 0 0]) (t := 43) gz ?_; intro gb172 hg w89 hbox hb; replace HB := am (below_step (hz2 HB.out (IsS99.ge HI0.out) GE168.out) hb); have BK172 := am (hbox); have GW172 := am ((by rw [hg]; exact (keep_size (w := w) (g := g) (row := none) (kz1 HK.out GW168.out)) : w.heap.size ≤ gb172)); have GE172 := am ((Nat.le_trans HW0.out (by rw [hg]; exact (keep_size (w := w) (g := g) (row := none) (kz1 HK.out GW168.out)) : w.heap.size ≤ gb172) : w0.heap.size ≤ gb172)); replace HK := am (KeepBut.trans (kz1 HK.out GW168.out) (KeepBut.of_below hb g none) (.inl rfl)); have NB168_172 := am ((nl hg (bz BK168.out) : gb168 ≠ gb172)); have NB172_168 := am ((ng hg (bz BK168.out) : gb172 ≠ gb168)); replace BK168 := am (bw BK168.out hb); have NB0_172 := am ((by rw [hg]; exact Nat.ne_of_lt (IsS99.lt (show IsS99 w0 _ g s0_0 t170 from is99_1 HI0.out NB0_168.out)) : g ≠ gb172)); have NB172_0 := am ((by rw [hg]; exact Nat.ne_of_gt (IsS99.lt (show IsS99 w0 _ g s0_0 t170 from is99_1 HI0.out NB0_168.out)) : gb172 ≠ g)); replace HI0 := am (IsS99.below (is99_1 HI0.out NB0_168.out) hb); clear hb hbox hg; have hnb90 := NB172_168.out; have hnc90 := NB168_172.out; have hnb91 := NB172_0.out; have hnc91 := NB0_172.out; obtain ⟨hcz92_0, hcz92_1, hcz92_2, hcz92_3, hcz92_4⟩ := cs5 BK172.out; obtain ⟨hfz92_0, hfz92_1, hfz92_2, hfz92_3, hfz92_4⟩ := fs5 BK172.out) | ((with_reducible refine gate_callee (f := 73) rfl ?_); refine goesLP_ (some 18) rfl rfl Tryd.func73 (by kernel_rfl) rfl #[.pointer (some ⟨g, 0, none⟩)] rfl lz ?_; (with_reducible refine (codec_decoder_next.calls g s0_0 t170 t173 t174 t175 w0 _ ?side1 ?side2 A7.out).mono ?_); (case side1 => exact is99_2 HI0.out NB0_168.out NB0_172.out); (case side2 => exact hz3 HB.out (IsS99.ge HI0.out) GE168.out GE172.out); rintro e w93 ⟨he_, hi, hb, hk⟩; (first | (refine zero_ he_ ?hz_ ?_; (case hz_ => (with_reducible assumption))) | (refine pan_ he_ ?hz_ ?_; (case hz_ => (with_reducible assumption)))); replace BK168 := am (KeepBut.blk hk (g' := gb168) (o := .cells #[.int .i64 0, .int .i64 0, .int .i64 0, .string (⟨#[]⟩ : ByteArray), .slice none 0 0] 43 (0, 0)) (bf1 NB168_172.out BK168.out) NB168_0.out (by simp)); replace BK172 := am (KeepBut.blk hk (g' := gb172) (o := .cells #[.int .i64 t169, .int .i64 0, .int .i64 0, .string (⟨#[]⟩ : ByteArray), .slice none 0 0] 43 (0, 0)) (bp BK172.out) NB172_0.out (by simp)); replace HK := am (KeepBut.trans (kz2 HK.out GW168.out GW172.out) hk (.inl rfl)); replace HB := am (hb); replace HI0 := am (hi); obtain ⟨hcz94_0, hcz94_1, hcz94_2, hcz94_3, hcz94_4⟩ := cs5 BK172.out; obtain ⟨hfz94_0, hfz94_1, hfz94_2, hfz94_3, hfz94_4⟩ := fs5 BK172.out) | ((with_reducible refine gate_callee (f := 72) rfl ?_); refine goesLP_ (some 62) rfl rfl Tryd.func72 (by kernel_rfl) rfl #[.pointer (some ⟨g, 0, none⟩), .int .u64 1024, .int .i64 5] rfl lz ?_; (with_reducible refine (codec_decoder_limited.calls k g s0_0 t174 1024 5 t191 t192 t193 w0 _ ?side1 ?side2 A85.out).mono ?_); (case side1 => exact is99_2 HI0.out NB0_168.out NB0_172.out); (case side2 => exact hz3 HB.out (IsS99.ge HI0.out) GE168.out GE172.out); rintro e w95 ⟨he_, hi, hb, hk⟩; (first | (refine zero_ he_ ?hz_ ?_; (case hz_ => (with_reducible assumption))) | (refine pan_ he_ ?hz_ ?_; (case hz_ => (with_reducible assumption)))); replace BK168 := am (KeepBut.blk hk (g' := gb168) (o := .cells #[.int .i64 0, .int .i64 0, .int .i64 0, .string (⟨#[]⟩ : ByteArray), .slice none 0 0] 43 (0, 0)) (bf1 NB168_172.out BK168.out) NB168_0.out (by simp)); replace BK172 := am (KeepBut.blk hk (g' := gb172) (o := .cells #[.int .i64 t169, .int .i64 (wrap64 (t173)), .int .i64 0, .string (⟨#[]⟩ : ByteArray), .slice none 0 0] 43 (0, 0)) (bp BK172.out) NB172_0.out (by simp)); replace HK := am (KeepBut.trans (kz2 HK.out GW168.out GW172.out) hk (.inl rfl)); replace HB := am (hb); replace HI0 := am (hi)))
        go_loopg [64] k (fun kq v64 w' => ∃ (x64_1 : Int) (x1001_1 : Int) (x173004_1 : List (S43)) (u173004 : Value), v64 = .int .i64 x64_1 ∧ Aside0 (codec_decoder_node.l1 kq a1 t191 x64_1 s0_0 x1001_1 t169 (wrap64 (t173)) 0 (⟨#[]⟩ : ByteArray) x173004_1 = some (r1, r2, r3, r4, r5, r6, r7)) ∧ Aside0 (kq ≤ k) ∧ Aside0 (Kd.R k43 43 w' w.heap.size (fun k_ => k_ ≠ gb168 ∧ k_ ≠ gb172) u173004 x173004_1) ∧ Aside0 (w'.heap[gb168]? = some (.cells #[.int .i64 0, .int .i64 0, .int .i64 0, .string (⟨#[]⟩ : ByteArray), (.slice none 0 0)] 43 (0, 0))) ∧ Aside0 (w'.heap[gb172]? = some (.cells #[.int .i64 t169, .int .i64 (wrap64 (t173)), .int .i64 0, .string (⟨#[]⟩ : ByteArray), u173004] 43 (0, 0))) ∧ Aside0 (IsS99 w0 w' g s0_0 x1001_1) ∧ Aside0 (KeepBut w w' g none) ∧ Aside0 (Below w0.heap.size w0 w'))
        case atStart => exact ⟨(0), (t192), (([] : List (S43))), (.slice none 0 0), rfz, H', ⟨Nat.le_refl _⟩, ⟨nlz⟩, ⟨by (with_reducible repeat (first | refine blk_drewN ?_ _ | refine blk_drew ?_ | refine blk_alloc ?_ _)); exact BK168.out⟩, ⟨by (with_reducible repeat (first | refine blk_drewN ?_ _ | refine blk_drew ?_ | refine blk_alloc ?_ _)); exact BK172.out⟩, ⟨is99_2 HI0.out NB0_168.out NB0_172.out⟩, ⟨kz2 HK.out GW168.out GW172.out⟩, ⟨hz3 HB.out (IsS99.ge HI0.out) GE168.out GE172.out⟩⟩
        case round =>
         clear H'
         obtain ⟨x64_1, x1001_1, x173004_1, u173004, rfl, HA, HK1, HO_173004, BK168, BK172, HI0, HK, HB⟩ := hrel
         cases gk with
         | zero => exact absurd HA.out (by simp [codec_decoder_node.l1])
         | succ k1 =>
          have H := HA.out
          clear HA
          simp only [codec_decoder_node.l1] at H
          by_cases c96 : x64_1 < t191
          ·
           rw [if_pos c96] at H
           have c96b0 : decide (x64_1 < t191) = true := decide_eq_true c96
           clear c96
           replace H := Option.bind_eq_some_iff.mp H
           obtain ⟨⟨t194, t195, t196, t197, t198, t201, t202⟩, A970, H⟩ := H
           try dsimp only at H
           have A97 := am A970
           clear A970
           by_cases c98 : t202 = 0
           ·
            rw [if_pos c98] at H
            have c98b0 : (t202 == 0) = true := beq_iff_eq.mpr c98
            have c98b1 : (t202 != 0) = false := bne_eq_false_iff_eq.mpr c98
            clear c98
            replace H := it_ H
            obtain ⟨c99, H⟩ := H
            have LMc99 := am c99
            clear c99
            obtain ⟨y203, hy203⟩ : ∃ y_ : List (S43), y_ = (x173004_1 ++ [(⟨t194, t195, t196, t197, t198⟩ : S43)]) := ⟨_, rfl⟩
            replace H : (codec_decoder_node.l1 k1 a1 t191 (wrap64 (x64_1 + 1)) s0_0 t201 t169 (wrap64 (t173)) 0 (⟨#[]⟩ : ByteArray) y203) = some (r1, r2, r3, r4, r5, r6, r7) := by first | (rw [hy203]; with_reducible exact H) | (have H2_ := (Option.bind_some _ _).symm.trans H; rw [hy203]; with_reducible exact H2_) | (have H2_ := (Option.bind_some _ _).symm.trans H; with_reducible exact H2_) | with_reducible exact H | (rw [hy203]; exact H) | exact H
            have Ny203 := am hy203
            clear hy203
            have H' := am H
            clear H
            try go_wp2
            replace HO_173004 := am (Kd.R_drew HO_173004.out)
            replace BK168 := am (blk_drew BK168.out)
            replace BK172 := am (blk_drew BK172.out)
            replace HI0 := am (IsS99.drew HI0.out)
            replace HK := am (keep_drew HK.out)
            replace HB := am (below_drew1 HB.out)
            refine start_ (n := 10) (S := fun w' => w'.cell? ⟨gb172, 0, none⟩ = some (.int .i64 t169) ∧ w'.cell? ⟨gb172, 1, none⟩ = some (.int .i64 (wrap64 (t173))) ∧ w'.cell? ⟨gb172, 2, none⟩ = some (.int .i64 0) ∧ w'.cell? ⟨gb172, 3, none⟩ = some (.string (⟨#[]⟩ : ByteArray)) ∧ w'.cell? ⟨gb172, 4, none⟩ = some (u173004)) (ds := [9]) #[false, false, false, false, false, false, false, false, false, false] (by kernel_rfl) rfl rfl ⟨(blk_cell BK172.out 0).trans rfl, (blk_cell BK172.out 1).trans rfl, (blk_cell BK172.out 2).trans rfl, (blk_cell BK172.out 3).trans rfl, (blk_cell BK172.out 4).trans rfl⟩ (fun hHeld => ?_); refine with_tabW codec_decoder_node.tab24 codec_decoder_node.bits24 (fun HT_ HW_ => ?_)
            generalize wr.drew = w100 at HO_173004 BK168 BK172 HI0 HK HB hHeld ⊢
            refine pz 0 66 HT_.out ?_
            refine pz 2 68 HT_.out ?_
            refine pz 3 69 HT_.out ?_
            refine pz 4 70 HT_.out ?_
            refine take_ (i := 1) (N := some 67) (v := ?_) (a' := ?_) #[true, true, true, true, true, false, false, false, false, false] rfl rfl (take_ofW HT_.out HW_.out (by kernel_rfl)) (fun _ _ _ h => h) (Or.inl ⟨by rfl, ?_⟩) hHeld ?_ ?_
            rotate_left
            ·
             rintro w' ⟨s0, s1, s2, s3, s4⟩
             go_simp
             with_reducible rfl
            rotate_left
            ·
             simp only [Act.put, List.setIfInBounds_toArray, List.set_cons_zero, List.set_cons_succ, i64_w, i32_w]
             rfl
            refine oz 5 71 HT_.out (fun K hK => ?_)
            refine goesP_ Tryd.func67 (by kernel_rfl) rfl #[.pointer (some ⟨g, 0, none⟩), .int .i64 (wrap64 (a1 + 1))] (by rfl) rfl rfl lz ?_
            with_reducible refine (ih k1 (by have := HK1.out; omega) g s0_0 x1001_1 (wrap64 (a1 + 1)) t194 t195 t196 t197 t198 t201 t202 w0 _ ?side1 ?side2 A97.out).mono ?_
            (case side1 => exact is99_2 HI0.out NB0_168.out NB0_172.out)
            (case side2 => exact hz3 HB.out (IsS99.ge HI0.out) GE168.out GE172.out)
            rintro e w101 ⟨v199, he_, ho0, hi, hb, hk⟩
            (first | (refine zero_ he_ ?hz_ ?_; (case hz_ => (with_reducible assumption))) | (refine pan_ he_ ?hz_ ?_; (case hz_ => (with_reducible assumption))))
            have HO200 := am (Kd.R_lower (Kd.R_newB (Kd.R_newB (Kd.R_new' ho0 (Kd.R_lt (rz HO_173004.out))) (g := gb168) (o := .cells #[.int .i64 0, .int .i64 0, .int .i64 0, .string (⟨#[]⟩ : ByteArray), .slice none 0 0] 43 (0, 0)) (bz BK168.out)) (g := gb172) (o := .cells #[.int .i64 t169, .int .i64 (wrap64 (t173)), .int .i64 0, .string (⟨#[]⟩ : ByteArray), u173004] 43 (0, 0)) (bz BK172.out)) (keep_size (w := w) (g := g) (row := none) (kz2 HK.out GW168.out GW172.out)))
            replace HO_173004 := am (Kd.R_mono (Kd.R_told (Kd.R_oldK (IsS99.apart (show IsS99 w0 _ g s0_0 x1001_1 from is99_2 HI0.out NB0_168.out NB0_172.out) (rz HO_173004.out) (by decide)) hk) (Kd.R_base ho0)) (fun _ h_ => h_.1))
            replace BK168 := am (KeepBut.blk hk (g' := gb168) (o := .cells #[.int .i64 0, .int .i64 0, .int .i64 0, .string (⟨#[]⟩ : ByteArray), .slice none 0 0] 43 (0, 0)) (bz BK168.out) NB168_0.out (by simp))
            replace BK172 := am (KeepBut.blk hk (g' := gb172) (o := .cells #[.int .i64 t169, .int .i64 (wrap64 (t173)), .int .i64 0, .string (⟨#[]⟩ : ByteArray), u173004] 43 (0, 0)) (bz BK172.out) NB172_0.out (by simp))
            replace HK := am (KeepBut.trans (kz2 HK.out GW168.out GW172.out) hk (.inl rfl))
            replace HB := am (hb)
            replace HI0 := am (hi)
            (try clear hb)
            (try clear hb2)
            (try clear hk)
            (try clear hi)
            (try clear ho0)
            obtain ⟨Ao103, co103, eo103⟩ := Kd.R_slice HO200.out
            (first | subst eo103 | (injection eo103 with f1_ f2_ f3_; have f4_ := f1_.symm; have f5_ := f3_.symm; clear f1_ f2_ f3_; subst f4_; subst f5_))
            refine hK.out _ _ ⟨(blk_cell BK172.out 0).trans rfl, (blk_cell BK172.out 1).trans rfl, (blk_cell BK172.out 2).trans rfl, (blk_cell BK172.out 3).trans rfl, (blk_cell BK172.out 4).trans rfl⟩ (fun hHeld => ?_)
            clear hK K
            refine norm_ (a' := ?_) ?_ ?_
            rotate_left
            ·
             show Act.put _ (some 71) _ = _
             simp only [Act.put, List.setIfInBounds_toArray, List.set_cons_zero, List.set_cons_succ, i64_w, i32_w]
             rfl
            refine oz 6 72 HT_.out (fun K hK => ?_)
            refine value_ (w1 := ?_) (v := ?_) (by rfl) rfl ?_ ?_
            rotate_left 2
            ·
             go_simp
             constructor
             ·
              rfl
             ·
              rfl
            refine hK.out _ _ ⟨(blk_cell (blk_alloc BK172.out _) 0).trans rfl, (blk_cell (blk_alloc BK172.out _) 1).trans rfl, (blk_cell (blk_alloc BK172.out _) 2).trans rfl, (blk_cell (blk_alloc BK172.out _) 3).trans rfl, (blk_cell (blk_alloc BK172.out _) 4).trans rfl⟩ (fun hHeld => ?_)
            clear hK K
            refine norm_ (a' := ?_) ?_ ?_
            rotate_left
            ·
             show Act.put _ (some 72) _ = _
             simp only [Act.put, List.setIfInBounds_toArray, List.set_cons_zero, List.set_cons_succ, i64_w, i32_w]
             rfl
            refine oz 7 73 HT_.out (fun K hK => ?_)
            refine Kd.R_append_step k43 w.heap.size (by rfl) (.tmp 67) (.tmp 72) 22 43 (.agg #[(.int .i64 0), (.int .i64 0), (.int .i64 0), (.string ⟨#[]⟩), (.slice none 0 0)]) 64 rfl Tryd.underlying22 info43 rfl (by decide) (by omega) u173004 x173004_1 (⟨t194, t195, t196, t197, t198⟩ : S43) [.int .i64 t194, .int .i64 t195, .int .i64 t196, .string t197, .slice Ao103 t198.length co103] (fun k_ => k_ ≠ gb168 ∧ k_ ≠ gb172) (fun k_ => ((fun k_ => k_ ≠ gb168 ∧ k_ ≠ gb172)) k_ ∧ some k_ ≠ (u173004 : Value).ownBlock) rfl rfl ?aP (fun _ hk => hk) ?aF ?aO (Below.refl _ _) ?aS ?aL ?_
            (case aP => exact k43_mkM _ _ _ (⟨t194, t195, t196, t197, t198⟩ : S43) (Kd.R_mono (HO200.out) (fun k_ hk => ⟨⟨hk.1.2, hk.2⟩, hk.1.1.2⟩)))
            (case aF => exact (fun k_ hk => ⟨Kd.freshB (g := gb168) (o := .cells #[.int .i64 0, .int .i64 0, .int .i64 0, .string (⟨#[]⟩ : ByteArray), .slice none 0 0] 43 (0, 0)) (bz BK168.out) k_ hk, Kd.freshB (g := gb172) (o := .cells #[.int .i64 t169, .int .i64 (wrap64 (t173)), .int .i64 0, .string (⟨#[]⟩ : ByteArray), u173004] 43 (0, 0)) (bz BK172.out) k_ hk⟩))
            (case aO => exact (rz (Kd.R_mono HO_173004.out (fun _ hk => ⟨hk.1.1, hk.1.2⟩))))
            (case aS => exact (keep_size (w := w) (g := g) (row := none) (kz2 HK.out GW168.out GW172.out)))
            (case aL => have := LMc99.out; omega)
            intro v204 w102 ho hb hg hat
            rw [← Ny203.out] at ho
            replace BK168 := am (blk_grown (g := gb168) (o := .cells #[.int .i64 0, .int .i64 0, .int .i64 0, .string (⟨#[]⟩ : ByteArray), .slice none 0 0] 43 (0, 0)) (bz BK168.out) hg (Kd.R_away HO_173004.out (fun _ hk => hk.1.1)))
            replace BK172 := am (blk_grown (g := gb172) (o := .cells #[.int .i64 t169, .int .i64 (wrap64 (t173)), .int .i64 0, .string (⟨#[]⟩ : ByteArray), u173004] 43 (0, 0)) (bz BK172.out) hg (Kd.R_away HO_173004.out (fun _ hk => hk.1.2)))
            replace HB := am (below_weaken (hz3 HB.out (IsS99.ge HI0.out) GE168.out GE172.out) HL.out hb)
            replace HI0 := am (IsS99.grown (is99_2 HI0.out NB0_168.out NB0_172.out) hg (IsS99.own_ne HI0.out HO_173004.out (by decide)))
            replace HK := am (KeepBut.trans (kz2 HK.out GW168.out GW172.out) (KeepBut.of_grown hg g) (Kd.R_base2 HO_173004.out))
            have HO205 := am (ho)
            clear HO_173004 HO200
            clear ho hb hg hat
            obtain ⟨Ao104, co104, eo104⟩ := Kd.R_slice HO205.out
            (first | subst eo104 | (injection eo104 with f1_ f2_ f3_; have f4_ := f1_.symm; have f5_ := f3_.symm; clear f1_ f2_ f3_; subst f4_; subst f5_))
            refine hK.out _ _ ⟨(blk_cell BK172.out 0).trans rfl, (blk_cell BK172.out 1).trans rfl, (blk_cell BK172.out 2).trans rfl, (blk_cell BK172.out 3).trans rfl, (blk_cell BK172.out 4).trans rfl⟩ (fun hHeld => ?_)
            clear hK K
            refine norm_ (a' := ?_) ?_ ?_
            rotate_left
            ·
             show Act.put _ (some 73) _ = _
             simp only [Act.put, List.setIfInBounds_toArray, List.set_cons_zero, List.set_cons_succ, i64_w, i32_w]
             rfl
            refine pz 8 74 HT_.out ?_
            refine last_ (i := 9) (N := none) #[true, true, true, true, true, true, true, true, true, true] rfl rfl (one_of HT_.out (by kernel_rfl)) (by decide) (fun K hK => ?_)
            have hs105 : w102.cell? ⟨gb172, 4, none⟩ = some (u173004) := (blk_cell BK172.out 4).trans rfl
            have hfs105 := blk_frozen BK172.out 4
            have hns105_0 := NB168_172.out
            have hms105_0 := NB172_168.out
            refine skip_ (w1 := ?_) (by rfl) rfl ?_ ?_
            rotate_left
            ·
             go_simp
             rfl
            refine hK.out _ _ ?_
            clear hK K
            refine done_ (done_of HT_.out (by kernel_rfl)) ?_
            try go_wp2
            go_roundg k1
            case measure => have := HK1.out; omega
            case rel => exact ⟨(wrap64 (x64_1 + 1)), (t201), (y203), (.slice Ao104 y203.length co104), rfz, H', ⟨by have := HK1.out; omega⟩, ⟨by (with_reducible repeat (first | apply Kd.R_alloc | apply Kd.R_drewN | apply Kd.R_drew)); exact Kd.R_mono (Kd.R_far (p := ⟨gb172, 4, none⟩) (Kd.R_mono HO205.out (fun k_ hk => (⟨hk, hk.2⟩ : _ ∧ k_ ≠ gb172))) (fun _ hk => hk.2) (.slice Ao104 y203.length co104)) (fun _ hk => ⟨hk.1.1, hk.1.2⟩)⟩, ⟨bf1 NB168_172.out BK168.out⟩, ⟨bp BK172.out⟩, ⟨is99_2 HI0.out NB0_168.out NB0_172.out⟩, ⟨kz2 HK.out GW168.out GW172.out⟩, ⟨hz3 HB.out (IsS99.ge HI0.out) GE168.out GE172.out⟩⟩
           ·
            rw [if_neg c98] at H
            have c98b0 : (t202 == 0) = false := beq_eq_false_iff_ne.mpr c98
            have c98b1 : (t202 != 0) = true := bne_iff_ne.mpr c98
            simp only [Option.some.injEq, Prod.mk.injEq] at H
            obtain ⟨rfl, rfl, rfl, rfl, rfl, rfl, rfl⟩ := H
            try go_wp2
            replace HO_173004 := am (Kd.R_drew HO_173004.out)
            replace BK168 := am (blk_drew BK168.out)
            replace BK172 := am (blk_drew BK172.out)
            replace HI0 := am (IsS99.drew HI0.out)
            replace HK := am (keep_drew HK.out)
            replace HB := am (below_drew1 HB.out)
            refine start_ (n := 10) (S := fun w' => w'.cell? ⟨gb172, 0, none⟩ = some (.int .i64 t169) ∧ w'.cell? ⟨gb172, 1, none⟩ = some (.int .i64 (wrap64 (t173))) ∧ w'.cell? ⟨gb172, 2, none⟩ = some (.int .i64 0) ∧ w'.cell? ⟨gb172, 3, none⟩ = some (.string (⟨#[]⟩ : ByteArray)) ∧ w'.cell? ⟨gb172, 4, none⟩ = some (u173004)) (ds := []) #[false, false, false, false, false, false, false, false, false, false] (by kernel_rfl) rfl rfl ⟨(blk_cell BK172.out 0).trans rfl, (blk_cell BK172.out 1).trans rfl, (blk_cell BK172.out 2).trans rfl, (blk_cell BK172.out 3).trans rfl, (blk_cell BK172.out 4).trans rfl⟩ (fun hHeld => ?_); refine with_tabW codec_decoder_node.tab24 codec_decoder_node.bits24 (fun HT_ HW_ => ?_)
            generalize wr.drew = w106 at HO_173004 BK168 BK172 HI0 HK HB hHeld ⊢
            refine pz 0 66 HT_.out ?_
            refine pz 2 68 HT_.out ?_
            refine pz 3 69 HT_.out ?_
            refine pz 4 70 HT_.out ?_
            refine take_ (i := 1) (N := some 67) (v := ?_) (a' := ?_) #[true, true, true, true, true, false, false, false, false, false] rfl rfl (take_ofW HT_.out HW_.out (by kernel_rfl)) (fun _ _ _ h => h) (Or.inl ⟨by rfl, ?_⟩) hHeld ?_ ?_
            rotate_left
            ·
             rintro w' ⟨s0, s1, s2, s3, s4⟩
             go_simp
             with_reducible rfl
            rotate_left
            ·
             simp only [Act.put, List.setIfInBounds_toArray, List.set_cons_zero, List.set_cons_succ, i64_w, i32_w]
             rfl
            refine oz 5 71 HT_.out (fun K hK => ?_)
            refine goesP_ Tryd.func67 (by kernel_rfl) rfl #[.pointer (some ⟨g, 0, none⟩), .int .i64 (wrap64 (a1 + 1))] (by rfl) rfl rfl lz ?_
            with_reducible refine (ih k1 (by have := HK1.out; omega) g s0_0 x1001_1 (wrap64 (a1 + 1)) t194 t195 t196 t197 t198 t201 t202 w0 _ ?side1 ?side2 A97.out).mono ?_
            (case side1 => exact is99_2 HI0.out NB0_168.out NB0_172.out)
            (case side2 => exact hz3 HB.out (IsS99.ge HI0.out) GE168.out GE172.out)
            rintro e w107 ⟨v199, he_, ho0, hi, hb, hk⟩
            (first | (refine zero_ he_ ?hz_ ?_; (case hz_ => (with_reducible assumption))) | (refine pan_ he_ ?hz_ ?_; (case hz_ => (with_reducible assumption))))
            have HO200 := am (Kd.R_lower (Kd.R_newB (Kd.R_newB (Kd.R_new' ho0 (Kd.R_lt (rz HO_173004.out))) (g := gb168) (o := .cells #[.int .i64 0, .int .i64 0, .int .i64 0, .string (⟨#[]⟩ : ByteArray), .slice none 0 0] 43 (0, 0)) (bz BK168.out)) (g := gb172) (o := .cells #[.int .i64 t169, .int .i64 (wrap64 (t173)), .int .i64 0, .string (⟨#[]⟩ : ByteArray), u173004] 43 (0, 0)) (bz BK172.out)) (keep_size (w := w) (g := g) (row := none) (kz2 HK.out GW168.out GW172.out)))
            replace HO_173004 := am (Kd.R_mono (Kd.R_told (Kd.R_oldK (IsS99.apart (show IsS99 w0 _ g s0_0 x1001_1 from is99_2 HI0.out NB0_168.out NB0_172.out) (rz HO_173004.out) (by decide)) hk) (Kd.R_base ho0)) (fun _ h_ => h_.1))
            replace BK168 := am (KeepBut.blk hk (g' := gb168) (o := .cells #[.int .i64 0, .int .i64 0, .int .i64 0, .string (⟨#[]⟩ : ByteArray), .slice none 0 0] 43 (0, 0)) (bz BK168.out) NB168_0.out (by simp))
            replace BK172 := am (KeepBut.blk hk (g' := gb172) (o := .cells #[.int .i64 t169, .int .i64 (wrap64 (t173)), .int .i64 0, .string (⟨#[]⟩ : ByteArray), u173004] 43 (0, 0)) (bz BK172.out) NB172_0.out (by simp))
            replace HK := am (KeepBut.trans (kz2 HK.out GW168.out GW172.out) hk (.inl rfl))
            replace HB := am (hb)
            replace HI0 := am (hi)
            (try clear hb)
            (try clear hb2)
            (try clear hk)
            (try clear hi)
            (try clear ho0)
            try go_wp2
            refine ⟨rfl, ?_⟩
            exact ⟨_, by first | rfl | (refine pan_eq ?_; assumption) | (simp [errW_none, errW_some] <;> rfl) | (simp [*, errW_none, errW_some] <;> rfl), nlz, is99_2 HI0.out NB0_168.out NB0_172.out, hz3 HB.out (IsS99.ge HI0.out) GE168.out GE172.out, kz2 HK.out GW168.out GW172.out⟩
          ·
           rw [if_neg c96] at H
           have c96b0 : decide (x64_1 < t191) = false := decide_eq_false c96
           clear c96
           simp only [Option.some.injEq, Prod.mk.injEq] at H
           obtain ⟨rfl, rfl, rfl, rfl, rfl, rfl, rfl⟩ := H
           have hnb108 := NB172_168.out
           have hnc108 := NB168_172.out
           have hnb109 := NB172_0.out
           have hnc109 := NB0_172.out
           have hcz110_0 : wr.cell? ⟨gb172, 0, none⟩ = some (.int .i64 t169) := (blk_cell BK172.out 0).trans rfl
           have hcz110_1 : wr.cell? ⟨gb172, 1, none⟩ = some (.int .i64 (wrap64 (t173))) := (blk_cell BK172.out 1).trans rfl
           have hcz110_2 : wr.cell? ⟨gb172, 2, none⟩ = some (.int .i64 0) := (blk_cell BK172.out 2).trans rfl
           have hcz110_3 : wr.cell? ⟨gb172, 3, none⟩ = some (.string (⟨#[]⟩ : ByteArray)) := (blk_cell BK172.out 3).trans rfl
           have hcz110_4 : wr.cell? ⟨gb172, 4, none⟩ = some (u173004) := (blk_cell BK172.out 4).trans rfl
           have hfz110_0 := blk_frozen BK172.out 0
           have hfz110_1 := blk_frozen BK172.out 1
           have hfz110_2 := blk_frozen BK172.out 2
           have hfz110_3 := blk_frozen BK172.out 3
           have hfz110_4 := blk_frozen BK172.out 4
           have hnb111 := NB168_0.out
           have hnc111 := NB0_168.out
           have hcz112_0 : wr.cell? ⟨gb168, 0, none⟩ = some (.int .i64 0) := (blk_cell BK168.out 0).trans rfl
           have hcz112_1 : wr.cell? ⟨gb168, 1, none⟩ = some (.int .i64 0) := (blk_cell BK168.out 1).trans rfl
           have hcz112_2 : wr.cell? ⟨gb168, 2, none⟩ = some (.int .i64 0) := (blk_cell BK168.out 2).trans rfl
           have hcz112_3 : wr.cell? ⟨gb168, 3, none⟩ = some (.string (⟨#[]⟩ : ByteArray)) := (blk_cell BK168.out 3).trans rfl
           have hcz112_4 : wr.cell? ⟨gb168, 4, none⟩ = some (.slice none 0 0) := (blk_cell BK168.out 4).trans rfl
           have hfz112_0 := blk_frozen BK168.out 0
           have hfz112_1 := blk_frozen BK168.out 1
           have hfz112_2 := blk_frozen BK168.out 2
           have hfz112_3 := blk_frozen BK168.out 3
           have hfz112_4 := blk_frozen BK168.out 4
           obtain ⟨Ao113, co113, eo113⟩ := Kd.R_slice HO_173004.out
           subst eo113
           go_wp2
           refine bodyPost_ret (results_cell_row rfl _ _ gb168 43 #[.int .i64 t169, .int .i64 (wrap64 (t173)), .int .i64 0, .string (⟨#[]⟩ : ByteArray), .slice Ao113 x173004_1.length co113] (0, 0) _ rfl (bp BK168.out) Tryd.underlying43 rfl (by kernel_rfl)) rfl ?_
           exact ⟨_, by first | rfl | (refine pan_eq ?_; assumption) | (simp [errW_none, errW_some] <;> rfl) | (simp [*, errW_none, errW_some] <;> rfl), by (with_reducible repeat (first | apply Kd.R_alloc | apply Kd.R_drewN | apply Kd.R_drew)); exact Kd.R_mono (Kd.R_far (p := ⟨gb168, 4, none⟩) (Kd.R_far (p := ⟨gb168, 3, none⟩) (Kd.R_far (p := ⟨gb168, 2, none⟩) (Kd.R_far (p := ⟨gb168, 1, none⟩) (Kd.R_far (p := ⟨gb168, 0, none⟩) (Kd.R_mono HO_173004.out (fun k_ hk => (⟨hk, hk.1⟩ : _ ∧ k_ ≠ gb168))) (fun _ hk => hk.2) (.int .i64 t169)) (fun _ hk => hk.2) (.int .i64 (wrap64 (t173)))) (fun _ hk => hk.2) (.int .i64 0)) (fun _ hk => hk.2) (.string (⟨#[]⟩ : ByteArray))) (fun _ hk => hk.2) (.slice Ao113 x173004_1.length co113)) (fun _ hk => trivial), is99_2 HI0.out NB0_168.out NB0_172.out, hz3 HB.out (IsS99.ge HI0.out) GE168.out GE172.out, kz2 HK.out GW168.out GW172.out⟩
       ·
        rw [if_neg c86] at H
        have c86b0 : (t193 == 0) = false := beq_eq_false_iff_ne.mpr c86
        have c86b1 : (t193 != 0) = true := bne_iff_ne.mpr c86
        simp only [Option.some.injEq, Prod.mk.injEq] at H
        obtain ⟨rfl, rfl, rfl, rfl, rfl, rfl, rfl⟩ := H
        go_enter Tryd.func67, Tryd.ntmps67
        go_wp2_with (first | ((with_reducible refine gate_dst (N := 4) rfl ?_); refine box_event rfl (N := 4) rfl (cs := #[.int .i64 0, .int .i64 0, .int .i64 0, .string (⟨#[]⟩ : ByteArray), .slice none 0 0]) (t := 43) gz ?_; intro gb168 hg w114 hbox hb; replace HB := am (below_step (hz1 HB.out (IsS99.ge HI0.out)) hb); have BK168 := am (hbox); have GW168 := am ((by rw [hg]; exact (keep_size (w := w) (g := g) (row := none) (kz HK.out)) : w.heap.size ≤ gb168)); have GE168 := am ((Nat.le_trans HW0.out (by rw [hg]; exact (keep_size (w := w) (g := g) (row := none) (kz HK.out)) : w.heap.size ≤ gb168) : w0.heap.size ≤ gb168)); replace HK := am (KeepBut.trans (kz HK.out) (KeepBut.of_below hb g none) (.inl rfl)); have NB0_168 := am ((by rw [hg]; exact Nat.ne_of_lt (IsS99.lt (show IsS99 w0 _ g s0_0 s0_1 from is99_0 HI0.out)) : g ≠ gb168)); have NB168_0 := am ((by rw [hg]; exact Nat.ne_of_gt (IsS99.lt (show IsS99 w0 _ g s0_0 s0_1 from is99_0 HI0.out)) : gb168 ≠ g)); replace HI0 := am (IsS99.below (is99_0 HI0.out) hb); clear hb hbox hg) | ((with_reducible refine gate_callee (f := 72) rfl ?_); refine goesLP_ (some 15) rfl rfl Tryd.func72 (by kernel_rfl) rfl #[.pointer (some ⟨g, 0, none⟩), .int .u64 9999999, .int .i64 3] rfl lz ?_; (with_reducible refine (codec_decoder_limited.calls k g s0_0 s0_1 9999999 3 t169 t170 t171 w0 _ ?side1 ?side2 A5.out).mono ?_); (case side1 => exact is99_1 HI0.out NB0_168.out); (case side2 => exact hz2 HB.out (IsS99.ge HI0.out) GE168.out); rintro e w115 ⟨he_, hi, hb, hk⟩; (first | (refine zero_ he_ ?hz_ ?_; (case hz_ => (with_reducible assumption))) | (refine pan_ he_ ?hz_ ?_; (case hz_ => (with_reducible assumption)))); replace BK168 := am (KeepBut.blk hk (g' := gb168) (o := .cells #[.int .i64 0, .int .i64 0, .int .i64 0, .string (⟨#[]⟩ : ByteArray), .slice none 0 0] 43 (0, 0)) (bz BK168.out) NB168_0.out (by simp)); replace HK := am (KeepBut.trans (kz1 HK.out GW168.out) hk (.inl rfl)); replace HB := am (hb); replace HI0 := am (hi)) | ((with_reducible refine gate_dst (N := 5) rfl ?_); refine box_event rfl (N := 5) rfl (cs := #[.int .i64 0, .int .i64 0, .int .i64 0, .string (⟨#[]⟩ : ByteArray), .slice none 0 0]) (t := 43) gz ?_; intro gb172 hg w116 hbox hb; replace HB := am (below_step (hz2 HB.out (IsS99.ge HI0.out) GE168.out) hb); have BK172 := am (hbox); have GW172 := am ((by rw [hg]; exact (keep_size (w := w) (g := g) (row := none) (kz1 HK.out GW168.out)) : w.heap.size ≤ gb172)); have GE172 := am ((Nat.le_trans HW0.out (by rw [hg]; exact (keep_size (w := w) (g := g) (row := none) (kz1 HK.out GW168.out)) : w.heap.size ≤ gb172) : w0.heap.size ≤ gb172)); replace HK := am (KeepBut.trans (kz1 HK.out GW168.out) (KeepBut.of_below hb g none) (.inl rfl)); have NB168_172 := am ((nl hg (bz BK168.out) : gb168 ≠ gb172)); have NB172_168 := am ((ng hg (bz BK168.out) : gb172 ≠ gb168)); replace BK168 := am (bw BK168.out hb); have NB0_172 := am ((by rw [hg]; exact Nat.ne_of_lt (IsS99.lt (show IsS99 w0 _ g s0_0 t170 from is99_1 HI0.out NB0_168.out)) : g ≠ gb172)); have NB172_0 := am ((by rw [hg]; exact Nat.ne_of_gt (IsS99.lt (show IsS99 w0 _ g s0_0 t170 from is99_1 HI0.out NB0_168.out)) : gb172 ≠ g)); replace HI0 := am (IsS99.below (is99_1 HI0.out NB0_168.out) hb); clear hb hbox hg; have hnb117 := NB172_168.out; have hnc117 := NB168_172.out; have hnb118 := NB172_0.out; have hnc118 := NB0_172.out; obtain ⟨hcz119_0, hcz119_1, hcz119_2, hcz119_3, hcz119_4⟩ := cs5 BK172.out; obtain ⟨hfz119_0, hfz119_1, hfz119_2, hfz119_3, hfz119_4⟩ := fs5 BK172.out) | ((with_reducible refine gate_callee (f := 73) rfl ?_); refine goesLP_ (some 18) rfl rfl Tryd.func73 (by kernel_rfl) rfl #[.pointer (some ⟨g, 0, none⟩)] rfl lz ?_; (with_reducible refine (codec_decoder_next.calls g s0_0 t170 t173 t174 t175 w0 _ ?side1 ?side2 A7.out).mono ?_); (case side1 => exact is99_2 HI0.out NB0_168.out NB0_172.out); (case side2 => exact hz3 HB.out (IsS99.ge HI0.out) GE168.out GE172.out); rintro e w120 ⟨he_, hi, hb, hk⟩; (first | (refine zero_ he_ ?hz_ ?_; (case hz_ => (with_reducible assumption))) | (refine pan_ he_ ?hz_ ?_; (case hz_ => (with_reducible assumption)))); replace BK168 := am (KeepBut.blk hk (g' := gb168) (o := .cells #[.int .i64 0, .int .i64 0, .int .i64 0, .string (⟨#[]⟩ : ByteArray), .slice none 0 0] 43 (0, 0)) (bf1 NB168_172.out BK168.out) NB168_0.out (by simp)); replace BK172 := am (KeepBut.blk hk (g' := gb172) (o := .cells #[.int .i64 t169, .int .i64 0, .int .i64 0, .string (⟨#[]⟩ : ByteArray), .slice none 0 0] 43 (0, 0)) (bp BK172.out) NB172_0.out (by simp)); replace HK := am (KeepBut.trans (kz2 HK.out GW168.out GW172.out) hk (.inl rfl)); replace HB := am (hb); replace HI0 := am (hi); obtain ⟨hcz121_0, hcz121_1, hcz121_2, hcz121_3, hcz121_4⟩ := cs5 BK172.out; obtain ⟨hfz121_0, hfz121_1, hfz121_2, hfz121_3, hfz121_4⟩ := fs5 BK172.out) | ((with_reducible refine gate_callee (f := 72) rfl ?_); refine goesLP_ (some 62) rfl rfl Tryd.func72 (by kernel_rfl) rfl #[.pointer (some ⟨g, 0, none⟩), .int .u64 1024, .int .i64 5] rfl lz ?_; (with_reducible refine (codec_decoder_limited.calls k g s0_0 t174 1024 5 t191 t192 t193 w0 _ ?side1 ?side2 A85.out).mono ?_); (case side1 => exact is99_2 HI0.out NB0_168.out NB0_172.out); (case side2 => exact hz3 HB.out (IsS99.ge HI0.out) GE168.out GE172.out); rintro e w122 ⟨he_, hi, hb, hk⟩; (first | (refine zero_ he_ ?hz_ ?_; (case hz_ => (with_reducible assumption))) | (refine pan_ he_ ?hz_ ?_; (case hz_ => (with_reducible assumption)))); replace BK168 := am (KeepBut.blk hk (g' := gb168) (o := .cells #[.int .i64 0, .int .i64 0, .int .i64 0, .string (⟨#[]⟩ : ByteArray), .slice none 0 0] 43 (0, 0)) (bf1 NB168_172.out BK168.out) NB168_0.out (by simp)); replace BK172 := am (KeepBut.blk hk (g' := gb172) (o := .cells #[.int .i64 t169, .int .i64 (wrap64 (t173)), .int .i64 0, .string (⟨#[]⟩ : ByteArray), .slice none 0 0] 43 (0, 0)) (bp BK172.out) NB172_0.out (by simp)); replace HK := am (KeepBut.trans (kz2 HK.out GW168.out GW172.out) hk (.inl rfl)); replace HB := am (hb); replace HI0 := am (hi)))
        refine ⟨rfl, ?_⟩
        exact ⟨_, by first | rfl | (refine pan_eq ?_; assumption) | (simp [errW_none, errW_some] <;> rfl) | (simp [*, errW_none, errW_some] <;> rfl), nlz, is99_2 HI0.out NB0_168.out NB0_172.out, hz3 HB.out (IsS99.ge HI0.out) GE168.out GE172.out, kz2 HK.out GW168.out GW172.out⟩
      ·
       rw [if_neg c84] at H
       have c84b0 : ((wrap64 (t173)) == 3) = false := beq_eq_false_iff_ne.mpr c84
       have c84b1 : ((wrap64 (t173)) != 3) = true := bne_iff_ne.mpr c84
       simp only [Option.some.injEq, Prod.mk.injEq] at H
       obtain ⟨rfl, rfl, rfl, rfl, rfl, rfl, rfl⟩ := H
       go_enter Tryd.func67, Tryd.ntmps67
       go_wp2_with (first | ((with_reducible refine gate_dst (N := 4) rfl ?_); refine box_event rfl (N := 4) rfl (cs := #[.int .i64 0, .int .i64 0, .int .i64 0, .string (⟨#[]⟩ : ByteArray), .slice none 0 0]) (t := 43) gz ?_; intro gb168 hg w123 hbox hb; replace HB := am (below_step (hz1 HB.out (IsS99.ge HI0.out)) hb); have BK168 := am (hbox); have GW168 := am ((by rw [hg]; exact (keep_size (w := w) (g := g) (row := none) (kz HK.out)) : w.heap.size ≤ gb168)); have GE168 := am ((Nat.le_trans HW0.out (by rw [hg]; exact (keep_size (w := w) (g := g) (row := none) (kz HK.out)) : w.heap.size ≤ gb168) : w0.heap.size ≤ gb168)); replace HK := am (KeepBut.trans (kz HK.out) (KeepBut.of_below hb g none) (.inl rfl)); have NB0_168 := am ((by rw [hg]; exact Nat.ne_of_lt (IsS99.lt (show IsS99 w0 _ g s0_0 s0_1 from is99_0 HI0.out)) : g ≠ gb168)); have NB168_0 := am ((by rw [hg]; exact Nat.ne_of_gt (IsS99.lt (show IsS99 w0 _ g s0_0 s0_1 from is99_0 HI0.out)) : gb168 ≠ g)); replace HI0 := am (IsS99.below (is99_0 HI0.out) hb); clear hb hbox hg) | ((with_reducible refine gate_callee (f := 72) rfl ?_); refine goesLP_ (some 15) rfl rfl Tryd.func72 (by kernel_rfl) rfl #[.pointer (some ⟨g, 0, none⟩), .int .u64 9999999, .int .i64 3] rfl lz ?_; (with_reducible refine (codec_decoder_limited.calls k g s0_0 s0_1 9999999 3 t169 t170 t171 w0 _ ?side1 ?side2 A5.out).mono ?_); (case side1 => exact is99_1 HI0.out NB0_168.out); (case side2 => exact hz2 HB.out (IsS99.ge HI0.out) GE168.out); rintro e w124 ⟨he_, hi, hb, hk⟩; (first | (refine zero_ he_ ?hz_ ?_; (case hz_ => (with_reducible assumption))) | (refine pan_ he_ ?hz_ ?_; (case hz_ => (with_reducible assumption)))); replace BK168 := am (KeepBut.blk hk (g' := gb168) (o := .cells #[.int .i64 0, .int .i64 0, .int .i64 0, .string (⟨#[]⟩ : ByteArray), .slice none 0 0] 43 (0, 0)) (bz BK168.out) NB168_0.out (by simp)); replace HK := am (KeepBut.trans (kz1 HK.out GW168.out) hk (.inl rfl)); replace HB := am (hb); replace HI0 := am (hi)) | ((with_reducible refine gate_dst (N := 5) rfl ?_); refine box_event rfl (N := 5) rfl (cs := #[.int .i64 0, .int .i64 0, .int .i64 0, .string (⟨#[]⟩ : ByteArray), .slice none 0 0]) (t := 43) gz ?_; intro gb172 hg w125 hbox hb; replace HB := am (below_step (hz2 HB.out (IsS99.ge HI0.out) GE168.out) hb); have BK172 := am (hbox); have GW172 := am ((by rw [hg]; exact (keep_size (w := w) (g := g) (row := none) (kz1 HK.out GW168.out)) : w.heap.size ≤ gb172)); have GE172 := am ((Nat.le_trans HW0.out (by rw [hg]; exact (keep_size (w := w) (g := g) (row := none) (kz1 HK.out GW168.out)) : w.heap.size ≤ gb172) : w0.heap.size ≤ gb172)); replace HK := am (KeepBut.trans (kz1 HK.out GW168.out) (KeepBut.of_below hb g none) (.inl rfl)); have NB168_172 := am ((nl hg (bz BK168.out) : gb168 ≠ gb172)); have NB172_168 := am ((ng hg (bz BK168.out) : gb172 ≠ gb168)); replace BK168 := am (bw BK168.out hb); have NB0_172 := am ((by rw [hg]; exact Nat.ne_of_lt (IsS99.lt (show IsS99 w0 _ g s0_0 t170 from is99_1 HI0.out NB0_168.out)) : g ≠ gb172)); have NB172_0 := am ((by rw [hg]; exact Nat.ne_of_gt (IsS99.lt (show IsS99 w0 _ g s0_0 t170 from is99_1 HI0.out NB0_168.out)) : gb172 ≠ g)); replace HI0 := am (IsS99.below (is99_1 HI0.out NB0_168.out) hb); clear hb hbox hg; have hnb126 := NB172_168.out; have hnc126 := NB168_172.out; have hnb127 := NB172_0.out; have hnc127 := NB0_172.out; obtain ⟨hcz128_0, hcz128_1, hcz128_2, hcz128_3, hcz128_4⟩ := cs5 BK172.out; obtain ⟨hfz128_0, hfz128_1, hfz128_2, hfz128_3, hfz128_4⟩ := fs5 BK172.out) | ((with_reducible refine gate_callee (f := 73) rfl ?_); refine goesLP_ (some 18) rfl rfl Tryd.func73 (by kernel_rfl) rfl #[.pointer (some ⟨g, 0, none⟩)] rfl lz ?_; (with_reducible refine (codec_decoder_next.calls g s0_0 t170 t173 t174 t175 w0 _ ?side1 ?side2 A7.out).mono ?_); (case side1 => exact is99_2 HI0.out NB0_168.out NB0_172.out); (case side2 => exact hz3 HB.out (IsS99.ge HI0.out) GE168.out GE172.out); rintro e w129 ⟨he_, hi, hb, hk⟩; (first | (refine zero_ he_ ?hz_ ?_; (case hz_ => (with_reducible assumption))) | (refine pan_ he_ ?hz_ ?_; (case hz_ => (with_reducible assumption)))); replace BK168 := am (KeepBut.blk hk (g' := gb168) (o := .cells #[.int .i64 0, .int .i64 0, .int .i64 0, .string (⟨#[]⟩ : ByteArray), .slice none 0 0] 43 (0, 0)) (bf1 NB168_172.out BK168.out) NB168_0.out (by simp)); replace BK172 := am (KeepBut.blk hk (g' := gb172) (o := .cells #[.int .i64 t169, .int .i64 0, .int .i64 0, .string (⟨#[]⟩ : ByteArray), .slice none 0 0] 43 (0, 0)) (bp BK172.out) NB172_0.out (by simp)); replace HK := am (KeepBut.trans (kz2 HK.out GW168.out GW172.out) hk (.inl rfl)); replace HB := am (hb); replace HI0 := am (hi); obtain ⟨hcz130_0, hcz130_1, hcz130_2, hcz130_3, hcz130_4⟩ := cs5 BK172.out; obtain ⟨hfz130_0, hfz130_1, hfz130_2, hfz130_3, hfz130_4⟩ := fs5 BK172.out))
       refine ⟨rfl, ?_⟩
       exact ⟨_, by first | rfl | (refine pan_eq ?_; assumption) | (simp [errW_none, errW_some] <;> rfl) | (simp [*, errW_none, errW_some] <;> rfl), nlz, is99_2 HI0.out NB0_168.out NB0_172.out, hz3 HB.out (IsS99.ge HI0.out) GE168.out GE172.out, kz2 HK.out GW168.out GW172.out⟩
   ·
    rw [if_neg c8] at H
    have c8b0 : (t175 == 0) = false := beq_eq_false_iff_ne.mpr c8
    have c8b1 : (t175 != 0) = true := bne_iff_ne.mpr c8
    simp only [Option.some.injEq, Prod.mk.injEq] at H
    obtain ⟨rfl, rfl, rfl, rfl, rfl, rfl, rfl⟩ := H
    go_enter Tryd.func67, Tryd.ntmps67
    go_wp2_with (first | ((with_reducible refine gate_dst (N := 4) rfl ?_); refine box_event rfl (N := 4) rfl (cs := #[.int .i64 0, .int .i64 0, .int .i64 0, .string (⟨#[]⟩ : ByteArray), .slice none 0 0]) (t := 43) gz ?_; intro gb168 hg w131 hbox hb; replace HB := am (below_step (hz1 HB.out (IsS99.ge HI0.out)) hb); have BK168 := am (hbox); have GW168 := am ((by rw [hg]; exact (keep_size (w := w) (g := g) (row := none) (kz HK.out)) : w.heap.size ≤ gb168)); have GE168 := am ((Nat.le_trans HW0.out (by rw [hg]; exact (keep_size (w := w) (g := g) (row := none) (kz HK.out)) : w.heap.size ≤ gb168) : w0.heap.size ≤ gb168)); replace HK := am (KeepBut.trans (kz HK.out) (KeepBut.of_below hb g none) (.inl rfl)); have NB0_168 := am ((by rw [hg]; exact Nat.ne_of_lt (IsS99.lt (show IsS99 w0 _ g s0_0 s0_1 from is99_0 HI0.out)) : g ≠ gb168)); have NB168_0 := am ((by rw [hg]; exact Nat.ne_of_gt (IsS99.lt (show IsS99 w0 _ g s0_0 s0_1 from is99_0 HI0.out)) : gb168 ≠ g)); replace HI0 := am (IsS99.below (is99_0 HI0.out) hb); clear hb hbox hg) | ((with_reducible refine gate_callee (f := 72) rfl ?_); refine goesLP_ (some 15) rfl rfl Tryd.func72 (by kernel_rfl) rfl #[.pointer (some ⟨g, 0, none⟩), .int .u64 9999999, .int .i64 3] rfl lz ?_; (with_reducible refine (codec_decoder_limited.calls k g s0_0 s0_1 9999999 3 t169 t170 t171 w0 _ ?side1 ?side2 A5.out).mono ?_); (case side1 => exact is99_1 HI0.out NB0_168.out); (case side2 => exact hz2 HB.out (IsS99.ge HI0.out) GE168.out); rintro e w132 ⟨he_, hi, hb, hk⟩; (first | (refine zero_ he_ ?hz_ ?_; (case hz_ => (with_reducible assumption))) | (refine pan_ he_ ?hz_ ?_; (case hz_ => (with_reducible assumption)))); replace BK168 := am (KeepBut.blk hk (g' := gb168) (o := .cells #[.int .i64 0, .int .i64 0, .int .i64 0, .string (⟨#[]⟩ : ByteArray), .slice none 0 0] 43 (0, 0)) (bz BK168.out) NB168_0.out (by simp)); replace HK := am (KeepBut.trans (kz1 HK.out GW168.out) hk (.inl rfl)); replace HB := am (hb); replace HI0 := am (hi)) | ((with_reducible refine gate_dst (N := 5) rfl ?_); refine box_event rfl (N := 5) rfl (cs := #[.int .i64 0, .int .i64 0, .int .i64 0, .string (⟨#[]⟩ : ByteArray), .slice none 0 0]) (t := 43) gz ?_; intro gb172 hg w133 hbox hb; replace HB := am (below_step (hz2 HB.out (IsS99.ge HI0.out) GE168.out) hb); have BK172 := am (hbox); have GW172 := am ((by rw [hg]; exact (keep_size (w := w) (g := g) (row := none) (kz1 HK.out GW168.out)) : w.heap.size ≤ gb172)); have GE172 := am ((Nat.le_trans HW0.out (by rw [hg]; exact (keep_size (w := w) (g := g) (row := none) (kz1 HK.out GW168.out)) : w.heap.size ≤ gb172) : w0.heap.size ≤ gb172)); replace HK := am (KeepBut.trans (kz1 HK.out GW168.out) (KeepBut.of_below hb g none) (.inl rfl)); have NB168_172 := am ((nl hg (bz BK168.out) : gb168 ≠ gb172)); have NB172_168 := am ((ng hg (bz BK168.out) : gb172 ≠ gb168)); replace BK168 := am (bw BK168.out hb); have NB0_172 := am ((by rw [hg]; exact Nat.ne_of_lt (IsS99.lt (show IsS99 w0 _ g s0_0 t170 from is99_1 HI0.out NB0_168.out)) : g ≠ gb172)); have NB172_0 := am ((by rw [hg]; exact Nat.ne_of_gt (IsS99.lt (show IsS99 w0 _ g s0_0 t170 from is99_1 HI0.out NB0_168.out)) : gb172 ≠ g)); replace HI0 := am (IsS99.below (is99_1 HI0.out NB0_168.out) hb); clear hb hbox hg; have hnb134 := NB172_168.out; have hnc134 := NB168_172.out; have hnb135 := NB172_0.out; have hnc135 := NB0_172.out; obtain ⟨hcz136_0, hcz136_1, hcz136_2, hcz136_3, hcz136_4⟩ := cs5 BK172.out; obtain ⟨hfz136_0, hfz136_1, hfz136_2, hfz136_3, hfz136_4⟩ := fs5 BK172.out) | ((with_reducible refine gate_callee (f := 73) rfl ?_); refine goesLP_ (some 18) rfl rfl Tryd.func73 (by kernel_rfl) rfl #[.pointer (some ⟨g, 0, none⟩)] rfl lz ?_; (with_reducible refine (codec_decoder_next.calls g s0_0 t170 t173 t174 t175 w0 _ ?side1 ?side2 A7.out).mono ?_); (case side1 => exact is99_2 HI0.out NB0_168.out NB0_172.out); (case side2 => exact hz3 HB.out (IsS99.ge HI0.out) GE168.out GE172.out); rintro e w137 ⟨he_, hi, hb, hk⟩; (first | (refine zero_ he_ ?hz_ ?_; (case hz_ => (with_reducible assumption))) | (refine pan_ he_ ?hz_ ?_; (case hz_ => (with_reducible assumption)))); replace BK168 := am (KeepBut.blk hk (g' := gb168) (o := .cells #[.int .i64 0, .int .i64 0, .int .i64 0, .string (⟨#[]⟩ : ByteArray), .slice none 0 0] 43 (0, 0)) (bf1 NB168_172.out BK168.out) NB168_0.out (by simp)); replace BK172 := am (KeepBut.blk hk (g' := gb172) (o := .cells #[.int .i64 t169, .int .i64 0, .int .i64 0, .string (⟨#[]⟩ : ByteArray), .slice none 0 0] 43 (0, 0)) (bp BK172.out) NB172_0.out (by simp)); replace HK := am (KeepBut.trans (kz2 HK.out GW168.out GW172.out) hk (.inl rfl)); replace HB := am (hb); replace HI0 := am (hi)))
    refine ⟨rfl, ?_⟩
    exact ⟨_, by first | rfl | (refine pan_eq ?_; assumption) | (simp [errW_none, errW_some] <;> rfl) | (simp [*, errW_none, errW_some] <;> rfl), nlz, is99_2 HI0.out NB0_168.out NB0_172.out, hz3 HB.out (IsS99.ge HI0.out) GE168.out GE172.out, kz2 HK.out GW168.out GW172.out⟩
  ·
   rw [if_neg c6] at H
   have c6b0 : (t171 == 0) = false := beq_eq_false_iff_ne.mpr c6
   have c6b1 : (t171 != 0) = true := bne_iff_ne.mpr c6
   simp only [Option.some.injEq, Prod.mk.injEq] at H
   obtain ⟨rfl, rfl, rfl, rfl, rfl, rfl, rfl⟩ := H
   go_enter Tryd.func67, Tryd.ntmps67
   go_wp2_with (first | ((with_reducible refine gate_dst (N := 4) rfl ?_); refine box_event rfl (N := 4) rfl (cs := #[.int .i64 0, .int .i64 0, .int .i64 0, .string (⟨#[]⟩ : ByteArray), .slice none 0 0]) (t := 43) gz ?_; intro gb168 hg w138 hbox hb; replace HB := am (below_step (hz1 HB.out (IsS99.ge HI0.out)) hb); have BK168 := am (hbox); have GW168 := am ((by rw [hg]; exact (keep_size (w := w) (g := g) (row := none) (kz HK.out)) : w.heap.size ≤ gb168)); have GE168 := am ((Nat.le_trans HW0.out (by rw [hg]; exact (keep_size (w := w) (g := g) (row := none) (kz HK.out)) : w.heap.size ≤ gb168) : w0.heap.size ≤ gb168)); replace HK := am (KeepBut.trans (kz HK.out) (KeepBut.of_below hb g none) (.inl rfl)); have NB0_168 := am ((by rw [hg]; exact Nat.ne_of_lt (IsS99.lt (show IsS99 w0 _ g s0_0 s0_1 from is99_0 HI0.out)) : g ≠ gb168)); have NB168_0 := am ((by rw [hg]; exact Nat.ne_of_gt (IsS99.lt (show IsS99 w0 _ g s0_0 s0_1 from is99_0 HI0.out)) : gb168 ≠ g)); replace HI0 := am (IsS99.below (is99_0 HI0.out) hb); clear hb hbox hg) | ((with_reducible refine gate_callee (f := 72) rfl ?_); refine goesLP_ (some 15) rfl rfl Tryd.func72 (by kernel_rfl) rfl #[.pointer (some ⟨g, 0, none⟩), .int .u64 9999999, .int .i64 3] rfl lz ?_; (with_reducible refine (codec_decoder_limited.calls k g s0_0 s0_1 9999999 3 t169 t170 t171 w0 _ ?side1 ?side2 A5.out).mono ?_); (case side1 => exact is99_1 HI0.out NB0_168.out); (case side2 => exact hz2 HB.out (IsS99.ge HI0.out) GE168.out); rintro e w139 ⟨he_, hi, hb, hk⟩; (first | (refine zero_ he_ ?hz_ ?_; (case hz_ => (with_reducible assumption))) | (refine pan_ he_ ?hz_ ?_; (case hz_ => (with_reducible assumption)))); replace BK168 := am (KeepBut.blk hk (g' := gb168) (o := .cells #[.int .i64 0, .int .i64 0, .int .i64 0, .string (⟨#[]⟩ : ByteArray), .slice none 0 0] 43 (0, 0)) (bz BK168.out) NB168_0.out (by simp)); replace HK := am (KeepBut.trans (kz1 HK.out GW168.out) hk (.inl rfl)); replace HB := am (hb); replace HI0 := am (hi)))
   refine ⟨rfl, ?_⟩
   exact ⟨_, by first | rfl | (refine pan_eq ?_; assumption) | (simp [errW_none, errW_some] <;> rfl) | (simp [*, errW_none, errW_some] <;> rfl), nlz, is99_1 HI0.out NB0_168.out, hz2 HB.out (IsS99.ge HI0.out) GE168.out, kz1 HK.out GW168.out⟩

end Go.Proofs.YteeggfnailpcpaaDoor.Q
