/- Made by wip/myprint.py of this session (it drives the kit's printer): what the calls of the Go functions come to, as plain Lean functions, and the row of a law over them; without conditions. -/
import Derived.Test.YtipjfhakcceebaaQx0
import Derived.Test.YtipjfhakcceebaaQx5
namespace Go.Proofs.Ytipjfhakcceebaa.Q
open Go.RowKit Go.Proofs.YtipjfhakcceebaaW.PrintWords Go.Proofs.YtipjfhakcceebaaW.PrintLast Go.Proofs.YtipjfhakcceebaaW.PrintMore
attribute [local go_sem] max2_int min2_int max_two min_two max_three min_three max_four min_four   -- for this text's walks alone
set_option linter.unusedVariables false
set_option linter.unusedSimpArgs false

/-! ### codec_decoder_node: function 24 -/
mutual
def codec_decoder_node.l0 : Nat → List Int → Int → Int → List Int → Int → Int → Int → Int → ByteArray → Option (Int × Int × Int × ByteArray × (List (S24)) × Int × Int)
 | 0, _, _, _, _, _, _, _, _, _ => none
 | k + 1, x8, x47, x48, x1000, x1001, x215000, x215001, x215002, x215003 => if x48 < x47 then ((codec_decoder_next.f x1000 x1001).bind fun bt227 => (if bt227.2.2 = 0 then (if x8.length < 140737488355328 then (codec_decoder_node.l0 k (x8 ++ [bt227.1]) x47 (wrap64 (x48 + 1)) x1000 bt227.2.1 x215000 x215001 x215002 x215003) else (none)) else (some (0, 0, 0, (⟨#[]⟩ : ByteArray), ([] : List (S24)), bt227.2.1, bt227.2.2)))) else (some (x215000, x215001, x215002, strOfNums x8, ([] : List (S24)), x1001, 0))
def codec_decoder_node.l1 : Nat → Int → Int → Int → List Int → Int → Int → Int → Int → ByteArray → List (S24) → Option (Int × Int × Int × ByteArray × (List (S24)) × Int × Int)
 | 0, _, _, _, _, _, _, _, _, _, _ => none
 | k + 1, x1, x63, x64, x1000, x1001, x215000, x215001, x215002, x215003, x215004 => if x64 < x63 then ((codec_decoder_node.f k x1000 x1001 (wrap64 (x1 + 1))).bind fun bt236 => (if bt236.2.2.2.2.2.2 = 0 then (if x215004.length < 2199023255552 then (codec_decoder_node.l1 k x1 x63 (wrap64 (x64 + 1)) x1000 bt236.2.2.2.2.2.1 x215000 x215001 x215002 x215003 (x215004 ++ [(⟨bt236.1, bt236.2.1, bt236.2.2.1, bt236.2.2.2.1, bt236.2.2.2.2.1⟩ : S24)])) else (none)) else (some (0, 0, 0, (⟨#[]⟩ : ByteArray), ([] : List (S24)), bt236.2.2.2.2.2.1, bt236.2.2.2.2.2.2)))) else (some (x215000, x215001, x215002, x215003, x215004, x1001, 0))
def codec_decoder_node.f : Nat → List Int → Int → Int → Option (Int × Int × Int × ByteArray × (List (S24)) × Int × Int)
 | 0, _, _, _ => none
 | k + 1, s0_0, s0_1, a1 => if a1 > 8 then (some (0, 0, 0, (⟨#[]⟩ : ByteArray), ([] : List (S24)), s0_1, 5)) else ((codec_decoder_limited.f k s0_0 s0_1 9999999 3).bind fun bt211 => (if bt211.2.2 = 0 then ((codec_decoder_next.f s0_0 bt211.2.1).bind fun bt215 => (if bt215.2.2 = 0 then (if (wrap64 (bt215.1)) = 1 then ((codec_decoder_varint.f k s0_0 bt215.2.1).bind fun bt218 => (if bt218.2.2 = 0 then (if (Go.bits .and .u64 bt218.1 1) = 1 then (some (bt211.1, wrap64 (bt215.1), wrap64 ((wrap64 (-(wrap64 (bt218.1 / 2)))) - 1), (⟨#[]⟩ : ByteArray), ([] : List (S24)), bt218.2.1, 0)) else (some (bt211.1, wrap64 (bt215.1), wrap64 (bt218.1 / 2), (⟨#[]⟩ : ByteArray), ([] : List (S24)), bt218.2.1, 0))) else (some (0, 0, 0, (⟨#[]⟩ : ByteArray), ([] : List (S24)), bt218.2.1, bt218.2.2)))) else (if (wrap64 (bt215.1)) = 2 then ((codec_decoder_limited.f k s0_0 bt215.2.1 2000 5).bind fun bt221 => (if bt221.2.2 = 0 then (if 0 ≤ bt221.1 then (if (bt221.1 : Int).toNat ≤ 281474976710656 then (codec_decoder_node.l0 k (([] : List Int)) bt221.1 0 s0_0 bt221.2.1 bt211.1 (wrap64 (bt215.1)) 0 (⟨#[]⟩ : ByteArray)) else (none)) else (none)) else (some (0, 0, 0, (⟨#[]⟩ : ByteArray), ([] : List (S24)), bt221.2.1, bt221.2.2)))) else (if (wrap64 (bt215.1)) = 3 then ((codec_decoder_limited.f k s0_0 bt215.2.1 1024 5).bind fun bt233 => (if bt233.2.2 = 0 then (codec_decoder_node.l1 k a1 bt233.1 0 s0_0 bt233.2.1 bt211.1 (wrap64 (bt215.1)) 0 (⟨#[]⟩ : ByteArray) ([] : List (S24))) else (some (0, 0, 0, (⟨#[]⟩ : ByteArray), ([] : List (S24)), bt233.2.1, bt233.2.2)))) else (some (0, 0, 0, (⟨#[]⟩ : ByteArray), ([] : List (S24)), bt215.2.1, 2))))) else (some (0, 0, 0, (⟨#[]⟩ : ByteArray), ([] : List (S24)), bt215.2.1, bt215.2.2)))) else (some (0, 0, 0, (⟨#[]⟩ : ByteArray), ([] : List (S24)), bt211.2.1, bt211.2.2))))
end
theorem codec_decoder_node.mono_l : ∀ k, (∀ y0 y1 y2, LeO (codec_decoder_node.f k y0 y1 y2) (codec_decoder_node.f (k + 1) y0 y1 y2)) ∧ (∀ y0 y1 y2 y3 y4 y5 y6 y7 y8, LeO (codec_decoder_node.l0 k y0 y1 y2 y3 y4 y5 y6 y7 y8) (codec_decoder_node.l0 (k + 1) y0 y1 y2 y3 y4 y5 y6 y7 y8)) ∧ (∀ y0 y1 y2 y3 y4 y5 y6 y7 y8 y9, LeO (codec_decoder_node.l1 k y0 y1 y2 y3 y4 y5 y6 y7 y8 y9) (codec_decoder_node.l1 (k + 1) y0 y1 y2 y3 y4 y5 y6 y7 y8 y9))
 | 0 => ⟨fun _ _ _ r h => by simp [codec_decoder_node.f] at h, fun _ _ _ _ _ _ _ _ _ r h => by simp [codec_decoder_node.l0] at h, fun _ _ _ _ _ _ _ _ _ _ r h => by simp [codec_decoder_node.l1] at h⟩
 | k + 1 => by
  obtain ⟨ih0, ih1, ih2⟩ := codec_decoder_node.mono_l k
  refine ⟨?_, ?_, ?_⟩
  ·
   intro y0 y1 y2
   unfold codec_decoder_node.f
   repeat' first
   | (with_reducible exact ih0 _ _ _)
   | (with_reducible exact ih1 _ _ _ _ _ _ _ _ _)
   | (with_reducible exact ih2 _ _ _ _ _ _ _ _ _ _)
   | (with_reducible exact codec_decoder_limited.mono _ _ _ _ _)
   | (with_reducible exact codec_decoder_varint.mono _ _ _)
   | (with_reducible exact LeO.refl _)
   | (with_reducible exact LeO.none _)
   | (with_reducible refine LeO.ite ?_ ?_)
   | (with_reducible refine LeO.bind ?_ (fun _ => ?_))
   | exact ih0 _ _ _
   | exact ih1 _ _ _ _ _ _ _ _ _
   | exact ih2 _ _ _ _ _ _ _ _ _ _
   | exact codec_decoder_limited.mono _ _ _ _ _
   | exact codec_decoder_varint.mono _ _ _
   | exact LeO.none _
   | refine LeO.ite ?_ ?_
   | refine LeO.bind ?_ (fun _ => ?_)
  ·
   intro y0 y1 y2 y3 y4 y5 y6 y7 y8
   unfold codec_decoder_node.l0
   repeat' first
   | (with_reducible exact ih0 _ _ _)
   | (with_reducible exact ih1 _ _ _ _ _ _ _ _ _)
   | (with_reducible exact ih2 _ _ _ _ _ _ _ _ _ _)
   | (with_reducible exact codec_decoder_limited.mono _ _ _ _ _)
   | (with_reducible exact codec_decoder_varint.mono _ _ _)
   | (with_reducible exact LeO.refl _)
   | (with_reducible exact LeO.none _)
   | (with_reducible refine LeO.ite ?_ ?_)
   | (with_reducible refine LeO.bind ?_ (fun _ => ?_))
   | exact ih0 _ _ _
   | exact ih1 _ _ _ _ _ _ _ _ _
   | exact ih2 _ _ _ _ _ _ _ _ _ _
   | exact codec_decoder_limited.mono _ _ _ _ _
   | exact codec_decoder_varint.mono _ _ _
   | exact LeO.none _
   | refine LeO.ite ?_ ?_
   | refine LeO.bind ?_ (fun _ => ?_)
  ·
   intro y0 y1 y2 y3 y4 y5 y6 y7 y8 y9
   unfold codec_decoder_node.l1
   repeat' first
   | (with_reducible exact ih0 _ _ _)
   | (with_reducible exact ih1 _ _ _ _ _ _ _ _ _)
   | (with_reducible exact ih2 _ _ _ _ _ _ _ _ _ _)
   | (with_reducible exact codec_decoder_limited.mono _ _ _ _ _)
   | (with_reducible exact codec_decoder_varint.mono _ _ _)
   | (with_reducible exact LeO.refl _)
   | (with_reducible exact LeO.none _)
   | (with_reducible refine LeO.ite ?_ ?_)
   | (with_reducible refine LeO.bind ?_ (fun _ => ?_))
   | exact ih0 _ _ _
   | exact ih1 _ _ _ _ _ _ _ _ _
   | exact ih2 _ _ _ _ _ _ _ _ _ _
   | exact codec_decoder_limited.mono _ _ _ _ _
   | exact codec_decoder_varint.mono _ _ _
   | exact LeO.none _
   | refine LeO.ite ?_ ?_
   | refine LeO.bind ?_ (fun _ => ?_)
theorem codec_decoder_node.mono : ∀ a0 a1 a2 k, LeO (codec_decoder_node.f k a0 a1 a2) (codec_decoder_node.f (k + 1) a0 a1 a2) := by
 intro a0 a1 a2 k
 obtain ⟨ih0, ih1, ih2⟩ := codec_decoder_node.mono_l k
 exact ih0 a0 a1 a2
def codec_decoder_node.T24 : Bool × List (List Nat × List Nat) := (true, [([], []), ([0], [0]), ([], []), ([], []), ([3], [3]), ([2, 4], [2, 4]), ([5], [5]), ([1, 6, 5], [1, 6]), ([0, 1, 2, 3, 4, 5, 6, 7], []), ([8, 7, 7, 0, 1, 2, 3, 4, 5, 6, 7], [7, 8])])
def codec_decoder_node.B24 : List Nat := [0, 1, 0, 0, 8, 28, 60, 127, 255, 511]
theorem codec_decoder_node.tab24 : rtab .any (opsOf Try.f24 24) = codec_decoder_node.T24 := by kernel_rfl
theorem codec_decoder_node.bits24 : waitsOk codec_decoder_node.T24.2 codec_decoder_node.B24 = true := by kernel_rfl
set_option maxHeartbeats 8000000 in
set_option maxRecDepth 100000 in
theorem codec_decoder_node.calls (k : Nat) : ∀ (g : Nat) (s0_0 : List Int) (s0_1 : Int) (a1 : Int) (r1 : Int) (r2 : Int) (r3 : Int) (r4 : ByteArray) (r5 : List (S24)) (r6 : Int) (r7 : Int) (w0 w : World) (hI : IsS51 w0 w g s0_0 s0_1) (hB : Below w0.heap.size w0 w) (h : codec_decoder_node.f k s0_0 s0_1 a1 = some (r1, r2, r3, r4, r5, r6, r7)),
  Calls Try.prog 24 #[.pointer (some ⟨g, 0, none⟩), .int .i64 a1] w fun e w' => ∃ v4_ : Value, e = endOf_ 47 r7 (.agg #[.int .i64 r1, .int .i64 r2, .int .i64 r3, .string r4, v4_]) ∧ Kd.R k24 24 w' w.heap.size (fun _ => True) v4_ r5 ∧ IsS51 w0 w' g s0_0 r6 ∧ Below w0.heap.size w0 w' ∧ KeepBut w w' g none := by
 induction k using Nat.strongRecOn with
 | _ k ih =>
 intro g s0_0 s0_1 a1 r1 r2 r3 r4 r5 r6 r7 w0 w hI hB h
 cases k with
 | zero => exact absurd h (by simp [codec_decoder_node.f])
 | succ k =>
 simp only [codec_decoder_node.f] at h
 have hu24 := Try.underlying24
 have hu47 := Try.underlying47
 have HI0 := am hI
 have HK := am (KeepBut.refl w g none)
 have HL := am hB.size
 clear hI
 have HW0 := am hB.size
 have HB := am hB
 clear hB
 have H : (if a1 > 8 then (some (0, 0, 0, (⟨#[]⟩ : ByteArray), ([] : List (S24)), s0_1, 5)) else ((codec_decoder_limited.f k s0_0 s0_1 9999999 3).bind fun bt211 => (if bt211.2.2 = 0 then ((codec_decoder_next.f s0_0 bt211.2.1).bind fun bt215 => (if bt215.2.2 = 0 then (if (wrap64 (bt215.1)) = 1 then ((codec_decoder_varint.f k s0_0 bt215.2.1).bind fun bt218 => (if bt218.2.2 = 0 then (if (Go.bits .and .u64 bt218.1 1) = 1 then (some (bt211.1, wrap64 (bt215.1), wrap64 ((wrap64 (-(wrap64 (bt218.1 / 2)))) - 1), (⟨#[]⟩ : ByteArray), ([] : List (S24)), bt218.2.1, 0)) else (some (bt211.1, wrap64 (bt215.1), wrap64 (bt218.1 / 2), (⟨#[]⟩ : ByteArray), ([] : List (S24)), bt218.2.1, 0))) else (some (0, 0, 0, (⟨#[]⟩ : ByteArray), ([] : List (S24)), bt218.2.1, bt218.2.2)))) else (if (wrap64 (bt215.1)) = 2 then ((codec_decoder_limited.f k s0_0 bt215.2.1 2000 5).bind fun bt221 => (if bt221.2.2 = 0 then (if 0 ≤ bt221.1 then (if (bt221.1 : Int).toNat ≤ 281474976710656 then (codec_decoder_node.l0 k (([] : List Int)) bt221.1 0 s0_0 bt221.2.1 bt211.1 (wrap64 (bt215.1)) 0 (⟨#[]⟩ : ByteArray)) else (none)) else (none)) else (some (0, 0, 0, (⟨#[]⟩ : ByteArray), ([] : List (S24)), bt221.2.1, bt221.2.2)))) else (if (wrap64 (bt215.1)) = 3 then ((codec_decoder_limited.f k s0_0 bt215.2.1 1024 5).bind fun bt233 => (if bt233.2.2 = 0 then (codec_decoder_node.l1 k a1 bt233.1 0 s0_0 bt233.2.1 bt211.1 (wrap64 (bt215.1)) 0 (⟨#[]⟩ : ByteArray) ([] : List (S24))) else (some (0, 0, 0, (⟨#[]⟩ : ByteArray), ([] : List (S24)), bt233.2.1, bt233.2.2)))) else (some (0, 0, 0, (⟨#[]⟩ : ByteArray), ([] : List (S24)), bt215.2.1, 2))))) else (some (0, 0, 0, (⟨#[]⟩ : ByteArray), ([] : List (S24)), bt215.2.1, bt215.2.2)))) else (some (0, 0, 0, (⟨#[]⟩ : ByteArray), ([] : List (S24)), bt211.2.1, bt211.2.2))))) = some (r1, r2, r3, r4, r5, r6, r7) := h
 clear h
 by_cases c3 : a1 > 8
 ·
  rw [if_pos c3] at H
  have c3b0 : decide (8 < a1) = true := decide_eq_true c3
  clear c3
  simp only [Option.some.injEq, Prod.mk.injEq] at H
  obtain ⟨rfl, rfl, rfl, rfl, rfl, rfl, rfl⟩ := H
  go_enter Try.func24, Try.ntmps24
  go_wp2_with (first | ((with_reducible refine gate_dst (N := 4) rfl ?_); refine box_event ?hg (N := 4) ?hd (cs := #[.int .i64 0, .int .i64 0, .int .i64 0, .string (⟨#[]⟩ : ByteArray), .slice none 0 0]) (t := 24) ?hr ?_; (case hd => rfl); (case hg => rfl); (case hr => exact gz); intro gb210 hg w4 hbox hb; replace HB := am (below_step (by repeat (first | (with_reducible first | exact HB.out | apply below_alloc | apply pw_below_drewN | apply below_drew1 | refine below_set ?_ (IsS51.ge HI0.out)) | exact HB.out)) hb); have BK210 := am (hbox); have GW210 := am ((by rw [hg]; exact (keep_size (w := w) (g := g) (row := none) (by repeat (first | (with_reducible first | exact HK.out | apply KeepBut.set_ | apply keep_drewN | apply keep_drew | apply keep_alloc) | exact HK.out))) : w.heap.size ≤ gb210)); have GE210 := am ((Nat.le_trans HW0.out (by rw [hg]; exact (keep_size (w := w) (g := g) (row := none) (by repeat (first | (with_reducible first | exact HK.out | apply KeepBut.set_ | apply keep_drewN | apply keep_drew | apply keep_alloc) | exact HK.out))) : w.heap.size ≤ gb210) : w0.heap.size ≤ gb210)); replace HK := am (KeepBut.trans (by repeat (first | (with_reducible first | exact HK.out | apply KeepBut.set_ | apply keep_drewN | apply keep_drew | apply keep_alloc) | exact HK.out)) (KeepBut.of_below hb g none) (.inl rfl)); have NB0_210 := am ((by rw [hg]; exact Nat.ne_of_lt (IsS51.lt (show IsS51 w0 _ g s0_0 s0_1 from by repeat (first | (with_reducible first | exact HI0.out | apply IsS51.alloc | apply IsS51.drewN | apply IsS51.drew | apply IsS51.set_1) | exact HI0.out))) : g ≠ gb210)); have NB210_0 := am ((by rw [hg]; exact Nat.ne_of_gt (IsS51.lt (show IsS51 w0 _ g s0_0 s0_1 from by repeat (first | (with_reducible first | exact HI0.out | apply IsS51.alloc | apply IsS51.drewN | apply IsS51.drew | apply IsS51.set_1) | exact HI0.out))) : gb210 ≠ g)); replace HI0 := am (IsS51.below (by repeat (first | (with_reducible first | exact HI0.out | apply IsS51.alloc | apply IsS51.drewN | apply IsS51.drew | apply IsS51.set_1) | exact HI0.out)) hb); clear hb hbox hg))
  refine ⟨rfl, ?_⟩
  exact ⟨_, by first | rfl | (refine pan_eq ?_; assumption) | (simp [errW_none, errW_some] <;> rfl) | (simp [*, errW_none, errW_some] <;> rfl), by first | exact Kd.R_nil _ _ _ _ _ | exact Kd.N_nil _ _ _ _ _ | exact Kd.V_nil _ _ _ _ _ | exact Kd.Q_nil _ _ _ _ _ | exact Kd.S_nil _ _ _ _ _, by repeat (first | (with_reducible first | exact HI0.out | apply IsS51.alloc | apply IsS51.drewN | apply IsS51.drew | apply IsS51.set_1 | refine IsS51.far ?_ NB0_210.out _) | exact HI0.out), by repeat (first | (with_reducible first | exact HB.out | apply below_alloc | apply pw_below_drewN | apply below_drew1 | refine below_set ?_ (IsS51.ge HI0.out) | refine below_set ?_ GE210.out) | exact HB.out), by repeat (first | (with_reducible first | exact HK.out | apply KeepBut.set_ | apply keep_drewN | apply keep_drew | apply keep_alloc | refine keep_far ?_ GW210.out _) | exact HK.out)⟩
 ·
  rw [if_neg c3] at H
  have c3b0 : decide (8 < a1) = false := decide_eq_false c3
  clear c3
  replace H := Option.bind_eq_some_iff.mp H
  obtain ⟨⟨t211, t212, t213⟩, A50, H⟩ := H
  replace H : (if t213 = 0 then ((codec_decoder_next.f s0_0 t212).bind fun bt215 => (if bt215.2.2 = 0 then (if (wrap64 (bt215.1)) = 1 then ((codec_decoder_varint.f k s0_0 bt215.2.1).bind fun bt218 => (if bt218.2.2 = 0 then (if (Go.bits .and .u64 bt218.1 1) = 1 then (some (t211, wrap64 (bt215.1), wrap64 ((wrap64 (-(wrap64 (bt218.1 / 2)))) - 1), (⟨#[]⟩ : ByteArray), ([] : List (S24)), bt218.2.1, 0)) else (some (t211, wrap64 (bt215.1), wrap64 (bt218.1 / 2), (⟨#[]⟩ : ByteArray), ([] : List (S24)), bt218.2.1, 0))) else (some (0, 0, 0, (⟨#[]⟩ : ByteArray), ([] : List (S24)), bt218.2.1, bt218.2.2)))) else (if (wrap64 (bt215.1)) = 2 then ((codec_decoder_limited.f k s0_0 bt215.2.1 2000 5).bind fun bt221 => (if bt221.2.2 = 0 then (if 0 ≤ bt221.1 then (if (bt221.1 : Int).toNat ≤ 281474976710656 then (codec_decoder_node.l0 k (([] : List Int)) bt221.1 0 s0_0 bt221.2.1 t211 (wrap64 (bt215.1)) 0 (⟨#[]⟩ : ByteArray)) else (none)) else (none)) else (some (0, 0, 0, (⟨#[]⟩ : ByteArray), ([] : List (S24)), bt221.2.1, bt221.2.2)))) else (if (wrap64 (bt215.1)) = 3 then ((codec_decoder_limited.f k s0_0 bt215.2.1 1024 5).bind fun bt233 => (if bt233.2.2 = 0 then (codec_decoder_node.l1 k a1 bt233.1 0 s0_0 bt233.2.1 t211 (wrap64 (bt215.1)) 0 (⟨#[]⟩ : ByteArray) ([] : List (S24))) else (some (0, 0, 0, (⟨#[]⟩ : ByteArray), ([] : List (S24)), bt233.2.1, bt233.2.2)))) else (some (0, 0, 0, (⟨#[]⟩ : ByteArray), ([] : List (S24)), bt215.2.1, 2))))) else (some (0, 0, 0, (⟨#[]⟩ : ByteArray), ([] : List (S24)), bt215.2.1, bt215.2.2)))) else (some (0, 0, 0, (⟨#[]⟩ : ByteArray), ([] : List (S24)), t212, t213))) = some (r1, r2, r3, r4, r5, r6, r7) := H
  have A5 := am A50
  clear A50
  by_cases c6 : t213 = 0
  ·
   rw [if_pos c6] at H
   have c6b0 : (t213 == 0) = true := beq_iff_eq.mpr c6
   have c6b1 : (t213 != 0) = false := bne_eq_false_iff_eq.mpr c6
   clear c6
   replace H := Option.bind_eq_some_iff.mp H
   obtain ⟨⟨t215, t216, t217⟩, A70, H⟩ := H
   replace H : (if t217 = 0 then (if (wrap64 (t215)) = 1 then ((codec_decoder_varint.f k s0_0 t216).bind fun bt218 => (if bt218.2.2 = 0 then (if (Go.bits .and .u64 bt218.1 1) = 1 then (some (t211, wrap64 (t215), wrap64 ((wrap64 (-(wrap64 (bt218.1 / 2)))) - 1), (⟨#[]⟩ : ByteArray), ([] : List (S24)), bt218.2.1, 0)) else (some (t211, wrap64 (t215), wrap64 (bt218.1 / 2), (⟨#[]⟩ : ByteArray), ([] : List (S24)), bt218.2.1, 0))) else (some (0, 0, 0, (⟨#[]⟩ : ByteArray), ([] : List (S24)), bt218.2.1, bt218.2.2)))) else (if (wrap64 (t215)) = 2 then ((codec_decoder_limited.f k s0_0 t216 2000 5).bind fun bt221 => (if bt221.2.2 = 0 then (if 0 ≤ bt221.1 then (if (bt221.1 : Int).toNat ≤ 281474976710656 then (codec_decoder_node.l0 k (([] : List Int)) bt221.1 0 s0_0 bt221.2.1 t211 (wrap64 (t215)) 0 (⟨#[]⟩ : ByteArray)) else (none)) else (none)) else (some (0, 0, 0, (⟨#[]⟩ : ByteArray), ([] : List (S24)), bt221.2.1, bt221.2.2)))) else (if (wrap64 (t215)) = 3 then ((codec_decoder_limited.f k s0_0 t216 1024 5).bind fun bt233 => (if bt233.2.2 = 0 then (codec_decoder_node.l1 k a1 bt233.1 0 s0_0 bt233.2.1 t211 (wrap64 (t215)) 0 (⟨#[]⟩ : ByteArray) ([] : List (S24))) else (some (0, 0, 0, (⟨#[]⟩ : ByteArray), ([] : List (S24)), bt233.2.1, bt233.2.2)))) else (some (0, 0, 0, (⟨#[]⟩ : ByteArray), ([] : List (S24)), t216, 2))))) else (some (0, 0, 0, (⟨#[]⟩ : ByteArray), ([] : List (S24)), t216, t217))) = some (r1, r2, r3, r4, r5, r6, r7) := H
   have A7 := am A70
   clear A70
   by_cases c8 : t217 = 0
   ·
    rw [if_pos c8] at H
    have c8b0 : (t217 == 0) = true := beq_iff_eq.mpr c8
    have c8b1 : (t217 != 0) = false := bne_eq_false_iff_eq.mpr c8
    clear c8
    by_cases c9 : (wrap64 (t215)) = 1
    ·
     rw [if_pos c9] at H
     have c9b0 : ((wrap64 (t215)) == 1) = true := beq_iff_eq.mpr c9
     have c9b1 : ((wrap64 (t215)) != 1) = false := bne_eq_false_iff_eq.mpr c9
     clear c9
     replace H := Option.bind_eq_some_iff.mp H
     obtain ⟨⟨t218, t219, t220⟩, A100, H⟩ := H
     replace H : (if t220 = 0 then (if (Go.bits .and .u64 t218 1) = 1 then (some (t211, wrap64 (t215), wrap64 ((wrap64 (-(wrap64 (t218 / 2)))) - 1), (⟨#[]⟩ : ByteArray), ([] : List (S24)), t219, 0)) else (some (t211, wrap64 (t215), wrap64 (t218 / 2), (⟨#[]⟩ : ByteArray), ([] : List (S24)), t219, 0))) else (some (0, 0, 0, (⟨#[]⟩ : ByteArray), ([] : List (S24)), t219, t220))) = some (r1, r2, r3, r4, r5, r6, r7) := H
     have A10 := am A100
     clear A100
     by_cases c11 : t220 = 0
     ·
      rw [if_pos c11] at H
      have c11b0 : (t220 == 0) = true := beq_iff_eq.mpr c11
      have c11b1 : (t220 != 0) = false := bne_eq_false_iff_eq.mpr c11
      clear c11
      by_cases c12 : (Go.bits .and .u64 t218 1) = 1
      ·
       rw [if_pos c12] at H
       have c12b0 : ((Go.bits .and .u64 t218 1) == 1) = true := beq_iff_eq.mpr c12
       have c12b1 : ((Go.bits .and .u64 t218 1) != 1) = false := bne_eq_false_iff_eq.mpr c12
       clear c12
       simp only [Option.some.injEq, Prod.mk.injEq] at H
       obtain ⟨rfl, rfl, rfl, rfl, rfl, rfl, rfl⟩ := H
       go_enter Try.func24, Try.ntmps24
       go_wp2_with (first | ((with_reducible refine gate_dst (N := 4) rfl ?_); refine box_event ?hg (N := 4) ?hd (cs := #[.int .i64 0, .int .i64 0, .int .i64 0, .string (⟨#[]⟩ : ByteArray), .slice none 0 0]) (t := 24) ?hr ?_; (case hd => rfl); (case hg => rfl); (case hr => exact gz); intro gb210 hg w13 hbox hb; replace HB := am (below_step (by repeat (first | (with_reducible first | exact HB.out | apply below_alloc | apply pw_below_drewN | apply below_drew1 | refine below_set ?_ (IsS51.ge HI0.out)) | exact HB.out)) hb); have BK210 := am (hbox); have GW210 := am ((by rw [hg]; exact (keep_size (w := w) (g := g) (row := none) (by repeat (first | (with_reducible first | exact HK.out | apply KeepBut.set_ | apply keep_drewN | apply keep_drew | apply keep_alloc) | exact HK.out))) : w.heap.size ≤ gb210)); have GE210 := am ((Nat.le_trans HW0.out (by rw [hg]; exact (keep_size (w := w) (g := g) (row := none) (by repeat (first | (with_reducible first | exact HK.out | apply KeepBut.set_ | apply keep_drewN | apply keep_drew | apply keep_alloc) | exact HK.out))) : w.heap.size ≤ gb210) : w0.heap.size ≤ gb210)); replace HK := am (KeepBut.trans (by repeat (first | (with_reducible first | exact HK.out | apply KeepBut.set_ | apply keep_drewN | apply keep_drew | apply keep_alloc) | exact HK.out)) (KeepBut.of_below hb g none) (.inl rfl)); have NB0_210 := am ((by rw [hg]; exact Nat.ne_of_lt (IsS51.lt (show IsS51 w0 _ g s0_0 s0_1 from by repeat (first | (with_reducible first | exact HI0.out | apply IsS51.alloc | apply IsS51.drewN | apply IsS51.drew | apply IsS51.set_1) | exact HI0.out))) : g ≠ gb210)); have NB210_0 := am ((by rw [hg]; exact Nat.ne_of_gt (IsS51.lt (show IsS51 w0 _ g s0_0 s0_1 from by repeat (first | (with_reducible first | exact HI0.out | apply IsS51.alloc | apply IsS51.drewN | apply IsS51.drew | apply IsS51.set_1) | exact HI0.out))) : gb210 ≠ g)); replace HI0 := am (IsS51.below (by repeat (first | (with_reducible first | exact HI0.out | apply IsS51.alloc | apply IsS51.drewN | apply IsS51.drew | apply IsS51.set_1) | exact HI0.out)) hb); clear hb hbox hg) | ((with_reducible refine gate_callee (f := 30) rfl ?_); refine goesLP_ (some 15) rfl rfl Try.func30 (by kernel_rfl) rfl #[.pointer (some ⟨g, 0, none⟩), .int .u64 9999999, .int .i64 3] rfl lz ?_; (with_reducible refine (codec_decoder_limited.calls k g s0_0 s0_1 9999999 3 t211 t212 t213 w0 _ ?side1 ?side2 A5.out).mono ?_); (case side1 => repeat (first | (with_reducible first | exact HI0.out | apply IsS51.alloc | apply IsS51.drewN | apply IsS51.drew | apply IsS51.set_1 | refine IsS51.far ?_ NB0_210.out _) | exact HI0.out)); (case side2 => repeat (first | (with_reducible first | exact HB.out | apply below_alloc | apply pw_below_drewN | apply below_drew1 | refine below_set ?_ (IsS51.ge HI0.out) | refine below_set ?_ GE210.out) | exact HB.out)); rintro e w14 ⟨he_, hi, hb, hk⟩; (first | (refine zero_ he_ ?hz_ ?_; (case hz_ => (with_reducible assumption))) | (refine pan_ he_ ?hz_ ?_; (case hz_ => (with_reducible assumption)))); replace BK210 := am (KeepBut.blk hk (g' := gb210) (o := .cells #[.int .i64 0, .int .i64 0, .int .i64 0, .string (⟨#[]⟩ : ByteArray), .slice none 0 0] 24 (0, 0)) (bz BK210.out) NB210_0.out (by simp)); replace HK := am (KeepBut.trans (by repeat (first | (with_reducible first | exact HK.out | apply KeepBut.set_ | apply keep_drewN | apply keep_drew | apply keep_alloc | refine keep_far ?_ GW210.out _) | exact HK.out)) hk (.inl rfl)); replace HB := am (hb); replace HI0 := am (hi); (try clear hb); (try clear hb2); (try clear hk); (try clear hi)) | ((with_reducible refine gate_dst (N := 5) rfl ?_); refine box_event ?hg (N := 5) ?hd (cs := #[.int .i64 0, .int .i64 0, .int .i64 0, .string (⟨#[]⟩ : ByteArray), .slice none 0 0]) (t := 24) ?hr ?_; (case hd => rfl); (case hg => rfl); (case hr => exact gz); intro gb214 hg w15 hbox hb; replace HB := am (below_step (by repeat (first | (with_reducible first | exact HB.out | apply below_alloc | apply pw_below_drewN | apply below_drew1 | refine below_set ?_ (IsS51.ge HI0.out) | refine below_set ?_ GE210.out) | exact HB.out)) hb); have BK214 := am (hbox); have GW214 := am ((by rw [hg]; exact (keep_size (w := w) (g := g) (row := none) (by repeat (first | (with_reducible first | exact HK.out | apply KeepBut.set_ | apply keep_drewN | apply keep_drew | apply keep_alloc | refine keep_far ?_ GW210.out _) | exact HK.out))) : w.heap.size ≤ gb214)); have GE214 := am ((Nat.le_trans HW0.out (by rw [hg]; exact (keep_size (w := w) (g := g) (row := none) (by repeat (first | (with_reducible first | exact HK.out | apply KeepBut.set_ | apply keep_drewN | apply keep_drew | apply keep_alloc | refine keep_far ?_ GW210.out _) | exact HK.out))) : w.heap.size ≤ gb214) : w0.heap.size ≤ gb214)); replace HK := am (KeepBut.trans (by repeat (first | (with_reducible first | exact HK.out | apply KeepBut.set_ | apply keep_drewN | apply keep_drew | apply keep_alloc | refine keep_far ?_ GW210.out _) | exact HK.out)) (KeepBut.of_below hb g none) (.inl rfl)); have NB210_214 := am ((by rw [hg]; exact Nat.ne_of_lt (blk_lt (g := gb210) (o := .cells #[.int .i64 0, .int .i64 0, .int .i64 0, .string (⟨#[]⟩ : ByteArray), .slice none 0 0] 24 (0, 0)) (bz BK210.out)) : gb210 ≠ gb214)); have NB214_210 := am ((by rw [hg]; exact Nat.ne_of_gt (blk_lt (g := gb210) (o := .cells #[.int .i64 0, .int .i64 0, .int .i64 0, .string (⟨#[]⟩ : ByteArray), .slice none 0 0] 24 (0, 0)) (bz BK210.out)) : gb214 ≠ gb210)); replace BK210 := am (blk_below (g := gb210) (o := .cells #[.int .i64 0, .int .i64 0, .int .i64 0, .string (⟨#[]⟩ : ByteArray), .slice none 0 0] 24 (0, 0)) (bz BK210.out) hb); have NB0_214 := am ((by rw [hg]; exact Nat.ne_of_lt (IsS51.lt (show IsS51 w0 _ g s0_0 t212 from by repeat (first | (with_reducible first | exact HI0.out | apply IsS51.alloc | apply IsS51.drewN | apply IsS51.drew | apply IsS51.set_1 | refine IsS51.far ?_ NB0_210.out _) | exact HI0.out))) : g ≠ gb214)); have NB214_0 := am ((by rw [hg]; exact Nat.ne_of_gt (IsS51.lt (show IsS51 w0 _ g s0_0 t212 from by repeat (first | (with_reducible first | exact HI0.out | apply IsS51.alloc | apply IsS51.drewN | apply IsS51.drew | apply IsS51.set_1 | refine IsS51.far ?_ NB0_210.out _) | exact HI0.out))) : gb214 ≠ g)); replace HI0 := am (IsS51.below (by repeat (first | (with_reducible first | exact HI0.out | apply IsS51.alloc | apply IsS51.drewN | apply IsS51.drew | apply IsS51.set_1 | refine IsS51.far ?_ NB0_210.out _) | exact HI0.out)) hb); clear hb hbox hg; have hnb16 := NB214_210.out; have hnc16 := NB210_214.out; have hnb17 := NB214_0.out; have hnc17 := NB0_214.out; obtain ⟨hcz18_0, hcz18_1, hcz18_2, hcz18_3, hcz18_4⟩ := cs5 BK214.out; obtain ⟨hfz18_0, hfz18_1, hfz18_2, hfz18_3, hfz18_4⟩ := fs5 BK214.out) | ((with_reducible refine gate_callee (f := 31) rfl ?_); refine goesLP_ (some 18) rfl rfl Try.func31 (by kernel_rfl) rfl #[.pointer (some ⟨g, 0, none⟩)] rfl lz ?_; (with_reducible refine (codec_decoder_next.calls g s0_0 t212 t215 t216 t217 w0 _ ?side1 ?side2 A7.out).mono ?_); (case side1 => repeat (first | (with_reducible first | exact HI0.out | apply IsS51.alloc | apply IsS51.drewN | apply IsS51.drew | apply IsS51.set_1 | refine IsS51.far ?_ NB0_210.out _ | refine IsS51.far ?_ NB0_214.out _) | exact HI0.out)); (case side2 => repeat (first | (with_reducible first | exact HB.out | apply below_alloc | apply pw_below_drewN | apply below_drew1 | refine below_set ?_ (IsS51.ge HI0.out) | refine below_set ?_ GE210.out | refine below_set ?_ GE214.out) | exact HB.out)); rintro e w19 ⟨he_, hi, hb, hk⟩; (first | (refine zero_ he_ ?hz_ ?_; (case hz_ => (with_reducible assumption))) | (refine pan_ he_ ?hz_ ?_; (case hz_ => (with_reducible assumption)))); replace BK210 := am (KeepBut.blk hk (g' := gb210) (o := .cells #[.int .i64 0, .int .i64 0, .int .i64 0, .string (⟨#[]⟩ : ByteArray), .slice none 0 0] 24 (0, 0)) (bf1 NB210_214.out BK210.out) NB210_0.out (by simp)); replace BK214 := am (KeepBut.blk hk (g' := gb214) (o := .cells #[.int .i64 t211, .int .i64 0, .int .i64 0, .string (⟨#[]⟩ : ByteArray), .slice none 0 0] 24 (0, 0)) (by (with_reducible repeat (first | refine blk_drewN ?_ _ | refine blk_drew ?_ | refine blk_alloc ?_ _)); refine blk_put (cs := #[.int .i64 t211, .int .i64 0, .int .i64 0, .string (⟨#[]⟩ : ByteArray), .slice none 0 0]) ?_ 4 _ rfl; (with_reducible repeat (first | refine blk_drewN ?_ _ | refine blk_drew ?_ | refine blk_alloc ?_ _)); refine blk_put (cs := #[.int .i64 t211, .int .i64 0, .int .i64 0, .string (⟨#[]⟩ : ByteArray), .slice none 0 0]) ?_ 3 _ rfl; (with_reducible repeat (first | refine blk_drewN ?_ _ | refine blk_drew ?_ | refine blk_alloc ?_ _)); refine blk_put (cs := #[.int .i64 t211, .int .i64 0, .int .i64 0, .string (⟨#[]⟩ : ByteArray), .slice none 0 0]) ?_ 2 _ rfl; (with_reducible repeat (first | refine blk_drewN ?_ _ | refine blk_drew ?_ | refine blk_alloc ?_ _)); refine blk_put (cs := #[.int .i64 t211, .int .i64 0, .int .i64 0, .string (⟨#[]⟩ : ByteArray), .slice none 0 0]) ?_ 1 _ rfl; (with_reducible repeat (first | refine blk_drewN ?_ _ | refine blk_drew ?_ | refine blk_alloc ?_ _)); refine blk_put (cs := #[.int .i64 0, .int .i64 0, .int .i64 0, .string (⟨#[]⟩ : ByteArray), .slice none 0 0]) ?_ 0 _ rfl; (with_reducible repeat (first | refine blk_drewN ?_ _ | refine blk_drew ?_ | refine blk_alloc ?_ _)); exact BK214.out) NB214_0.out (by simp)); replace HK := am (KeepBut.trans (by repeat (first | (with_reducible first | exact HK.out | apply KeepBut.set_ | apply keep_drewN | apply keep_drew | apply keep_alloc | refine keep_far ?_ GW210.out _ | refine keep_far ?_ GW214.out _) | exact HK.out)) hk (.inl rfl)); replace HB := am (hb); replace HI0 := am (hi); (try clear hb); (try clear hb2); (try clear hk); (try clear hi); obtain ⟨hcz20_0, hcz20_1, hcz20_2, hcz20_3, hcz20_4⟩ := cs5 BK214.out; obtain ⟨hfz20_0, hfz20_1, hfz20_2, hfz20_3, hfz20_4⟩ := fs5 BK214.out) | ((with_reducible refine gate_callee (f := 32) rfl ?_); refine goesLP_ (some 28) rfl rfl Try.func32 (by kernel_rfl) rfl #[.pointer (some ⟨g, 0, none⟩)] rfl lz ?_; (with_reducible refine (codec_decoder_varint.calls k g s0_0 t216 t218 t219 t220 w0 _ ?side1 ?side2 A10.out).mono ?_); (case side1 => repeat (first | (with_reducible first | exact HI0.out | apply IsS51.alloc | apply IsS51.drewN | apply IsS51.drew | apply IsS51.set_1 | refine IsS51.far ?_ NB0_210.out _ | refine IsS51.far ?_ NB0_214.out _) | exact HI0.out)); (case side2 => repeat (first | (with_reducible first | exact HB.out | apply below_alloc | apply pw_below_drewN | apply below_drew1 | refine below_set ?_ (IsS51.ge HI0.out) | refine below_set ?_ GE210.out | refine below_set ?_ GE214.out) | exact HB.out)); rintro e w21 ⟨he_, hi, hb, hk⟩; (first | (refine zero_ he_ ?hz_ ?_; (case hz_ => (with_reducible assumption))) | (refine pan_ he_ ?hz_ ?_; (case hz_ => (with_reducible assumption)))); replace BK210 := am (KeepBut.blk hk (g' := gb210) (o := .cells #[.int .i64 0, .int .i64 0, .int .i64 0, .string (⟨#[]⟩ : ByteArray), .slice none 0 0] 24 (0, 0)) (bf1 NB210_214.out BK210.out) NB210_0.out (by simp)); replace BK214 := am (KeepBut.blk hk (g' := gb214) (o := .cells #[.int .i64 t211, .int .i64 (wrap64 (t215)), .int .i64 0, .string (⟨#[]⟩ : ByteArray), .slice none 0 0] 24 (0, 0)) (by (with_reducible repeat (first | refine blk_drewN ?_ _ | refine blk_drew ?_ | refine blk_alloc ?_ _)); refine blk_put (cs := #[.int .i64 t211, .int .i64 0, .int .i64 0, .string (⟨#[]⟩ : ByteArray), .slice none 0 0]) ?_ 1 _ rfl; (with_reducible repeat (first | refine blk_drewN ?_ _ | refine blk_drew ?_ | refine blk_alloc ?_ _)); exact BK214.out) NB214_0.out (by simp)); replace HK := am (KeepBut.trans (by repeat (first | (with_reducible first | exact HK.out | apply KeepBut.set_ | apply keep_drewN | apply keep_drew | apply keep_alloc | refine keep_far ?_ GW210.out _ | refine keep_far ?_ GW214.out _) | exact HK.out)) hk (.inl rfl)); replace HB := am (hb); replace HI0 := am (hi); (try clear hb); (try clear hb2); (try clear hk); (try clear hi); obtain ⟨hcz22_0, hcz22_1, hcz22_2, hcz22_3, hcz22_4⟩ := cs5 BK214.out; obtain ⟨hfz22_0, hfz22_1, hfz22_2, hfz22_3, hfz22_4⟩ := fs5 BK214.out; have hnb23 := NB210_0.out; have hnc23 := NB0_210.out; obtain ⟨hcz24_0, hcz24_1, hcz24_2, hcz24_3, hcz24_4⟩ := cs5 BK210.out; obtain ⟨hfz24_0, hfz24_1, hfz24_2, hfz24_3, hfz24_4⟩ := fs5 BK210.out))
       refine bodyPost_ret (results_cell_row rfl _ _ gb210 24 #[.int .i64 t211, .int .i64 (wrap64 (t215)), .int .i64 (wrap64 ((wrap64 (-(wrap64 (t218 / 2)))) - 1)), .string (⟨#[]⟩ : ByteArray), .slice none 0 0] (0, 0) _ rfl (by (with_reducible repeat (first | refine blk_drewN ?_ _ | refine blk_drew ?_ | refine blk_alloc ?_ _)); refine blk_put (cs := #[.int .i64 t211, .int .i64 (wrap64 (t215)), .int .i64 (wrap64 ((wrap64 (-(wrap64 (t218 / 2)))) - 1)), .string (⟨#[]⟩ : ByteArray), .slice none 0 0]) ?_ 4 _ rfl; (with_reducible repeat (first | refine blk_drewN ?_ _ | refine blk_drew ?_ | refine blk_alloc ?_ _)); refine blk_put (cs := #[.int .i64 t211, .int .i64 (wrap64 (t215)), .int .i64 (wrap64 ((wrap64 (-(wrap64 (t218 / 2)))) - 1)), .string (⟨#[]⟩ : ByteArray), .slice none 0 0]) ?_ 3 _ rfl; (with_reducible repeat (first | refine blk_drewN ?_ _ | refine blk_drew ?_ | refine blk_alloc ?_ _)); refine blk_put (cs := #[.int .i64 t211, .int .i64 (wrap64 (t215)), .int .i64 0, .string (⟨#[]⟩ : ByteArray), .slice none 0 0]) ?_ 2 _ rfl; (with_reducible repeat (first | refine blk_drewN ?_ _ | refine blk_drew ?_ | refine blk_alloc ?_ _)); refine blk_put (cs := #[.int .i64 t211, .int .i64 0, .int .i64 0, .string (⟨#[]⟩ : ByteArray), .slice none 0 0]) ?_ 1 _ rfl; (with_reducible repeat (first | refine blk_drewN ?_ _ | refine blk_drew ?_ | refine blk_alloc ?_ _)); refine blk_put (cs := #[.int .i64 0, .int .i64 0, .int .i64 0, .string (⟨#[]⟩ : ByteArray), .slice none 0 0]) ?_ 0 _ rfl; (with_reducible repeat (first | refine blk_drewN ?_ _ | refine blk_drew ?_ | refine blk_alloc ?_ _)); refine blk_far ?_ NB210_214.out _; (with_reducible repeat (first | refine blk_drewN ?_ _ | refine blk_drew ?_ | refine blk_alloc ?_ _)); refine blk_far ?_ NB210_214.out _; (with_reducible repeat (first | refine blk_drewN ?_ _ | refine blk_drew ?_ | refine blk_alloc ?_ _)); exact BK210.out) Try.underlying24 rfl (by kernel_rfl)) rfl ?_
       exact ⟨_, by first | rfl | (refine pan_eq ?_; assumption) | (simp [errW_none, errW_some] <;> rfl) | (simp [*, errW_none, errW_some] <;> rfl), by first | exact Kd.R_nil _ _ _ _ _ | exact Kd.N_nil _ _ _ _ _ | exact Kd.V_nil _ _ _ _ _ | exact Kd.Q_nil _ _ _ _ _ | exact Kd.S_nil _ _ _ _ _, by repeat (first | (with_reducible first | exact HI0.out | apply IsS51.alloc | apply IsS51.drewN | apply IsS51.drew | apply IsS51.set_1 | refine IsS51.far ?_ NB0_210.out _ | refine IsS51.far ?_ NB0_214.out _) | exact HI0.out), by repeat (first | (with_reducible first | exact HB.out | apply below_alloc | apply pw_below_drewN | apply below_drew1 | refine below_set ?_ (IsS51.ge HI0.out) | refine below_set ?_ GE210.out | refine below_set ?_ GE214.out) | exact HB.out), by repeat (first | (with_reducible first | exact HK.out | apply KeepBut.set_ | apply keep_drewN | apply keep_drew | apply keep_alloc | refine keep_far ?_ GW210.out _ | refine keep_far ?_ GW214.out _) | exact HK.out)⟩
      ·
       rw [if_neg c12] at H
       have c12b0 : ((Go.bits .and .u64 t218 1) == 1) = false := beq_eq_false_iff_ne.mpr c12
       have c12b1 : ((Go.bits .and .u64 t218 1) != 1) = true := bne_iff_ne.mpr c12
       simp only [Option.some.injEq, Prod.mk.injEq] at H
       obtain ⟨rfl, rfl, rfl, rfl, rfl, rfl, rfl⟩ := H
       go_enter Try.func24, Try.ntmps24
       go_wp2_with (first | ((with_reducible refine gate_dst (N := 4) rfl ?_); refine box_event ?hg (N := 4) ?hd (cs := #[.int .i64 0, .int .i64 0, .int .i64 0, .string (⟨#[]⟩ : ByteArray), .slice none 0 0]) (t := 24) ?hr ?_; (case hd => rfl); (case hg => rfl); (case hr => exact gz); intro gb210 hg w25 hbox hb; replace HB := am (below_step (by repeat (first | (with_reducible first | exact HB.out | apply below_alloc | apply pw_below_drewN | apply below_drew1 | refine below_set ?_ (IsS51.ge HI0.out)) | exact HB.out)) hb); have BK210 := am (hbox); have GW210 := am ((by rw [hg]; exact (keep_size (w := w) (g := g) (row := none) (by repeat (first | (with_reducible first | exact HK.out | apply KeepBut.set_ | apply keep_drewN | apply keep_drew | apply keep_alloc) | exact HK.out))) : w.heap.size ≤ gb210)); have GE210 := am ((Nat.le_trans HW0.out (by rw [hg]; exact (keep_size (w := w) (g := g) (row := none) (by repeat (first | (with_reducible first | exact HK.out | apply KeepBut.set_ | apply keep_drewN | apply keep_drew | apply keep_alloc) | exact HK.out))) : w.heap.size ≤ gb210) : w0.heap.size ≤ gb210)); replace HK := am (KeepBut.trans (by repeat (first | (with_reducible first | exact HK.out | apply KeepBut.set_ | apply keep_drewN | apply keep_drew | apply keep_alloc) | exact HK.out)) (KeepBut.of_below hb g none) (.inl rfl)); have NB0_210 := am ((by rw [hg]; exact Nat.ne_of_lt (IsS51.lt (show IsS51 w0 _ g s0_0 s0_1 from by repeat (first | (with_reducible first | exact HI0.out | apply IsS51.alloc | apply IsS51.drewN | apply IsS51.drew | apply IsS51.set_1) | exact HI0.out))) : g ≠ gb210)); have NB210_0 := am ((by rw [hg]; exact Nat.ne_of_gt (IsS51.lt (show IsS51 w0 _ g s0_0 s0_1 from by repeat (first | (with_reducible first | exact HI0.out | apply IsS51.alloc | apply IsS51.drewN | apply IsS51.drew | apply IsS51.set_1) | exact HI0.out))) : gb210 ≠ g)); replace HI0 := am (IsS51.below (by repeat (first | (with_reducible first | exact HI0.out | apply IsS51.alloc | apply IsS51.drewN | apply IsS51.drew | apply IsS51.set_1) | exact HI0.out)) hb); clear hb hbox hg) | ((with_reducible refine gate_callee (f := 30) rfl ?_); refine goesLP_ (some 15) rfl rfl Try.func30 (by kernel_rfl) rfl #[.pointer (some ⟨g, 0, none⟩), .int .u64 9999999, .int .i64 3] rfl lz ?_; (with_reducible refine (codec_decoder_limited.calls k g s0_0 s0_1 9999999 3 t211 t212 t213 w0 _ ?side1 ?side2 A5.out).mono ?_); (case side1 => repeat (first | (with_reducible first | exact HI0.out | apply IsS51.alloc | apply IsS51.drewN | apply IsS51.drew | apply IsS51.set_1 | refine IsS51.far ?_ NB0_210.out _) | exact HI0.out)); (case side2 => repeat (first | (with_reducible first | exact HB.out | apply below_alloc | apply pw_below_drewN | apply below_drew1 | refine below_set ?_ (IsS51.ge HI0.out) | refine below_set ?_ GE210.out) | exact HB.out)); rintro e w26 ⟨he_, hi, hb, hk⟩; (first | (refine zero_ he_ ?hz_ ?_; (case hz_ => (with_reducible assumption))) | (refine pan_ he_ ?hz_ ?_; (case hz_ => (with_reducible assumption)))); replace BK210 := am (KeepBut.blk hk (g' := gb210) (o := .cells #[.int .i64 0, .int .i64 0, .int .i64 0, .string (⟨#[]⟩ : ByteArray), .slice none 0 0] 24 (0, 0)) (bz BK210.out) NB210_0.out (by simp)); replace HK := am (KeepBut.trans (by repeat (first | (with_reducible first | exact HK.out | apply KeepBut.set_ | apply keep_drewN | apply keep_drew | apply keep_alloc | refine keep_far ?_ GW210.out _) | exact HK.out)) hk (.inl rfl)); replace HB := am (hb); replace HI0 := am (hi); (try clear hb); (try clear hb2); (try clear hk); (try clear hi)) | ((with_reducible refine gate_dst (N := 5) rfl ?_); refine box_event ?hg (N := 5) ?hd (cs := #[.int .i64 0, .int .i64 0, .int .i64 0, .string (⟨#[]⟩ : ByteArray), .slice none 0 0]) (t := 24) ?hr ?_; (case hd => rfl); (case hg => rfl); (case hr => exact gz); intro gb214 hg w27 hbox hb; replace HB := am (below_step (by repeat (first | (with_reducible first | exact HB.out | apply below_alloc | apply pw_below_drewN | apply below_drew1 | refine below_set ?_ (IsS51.ge HI0.out) | refine below_set ?_ GE210.out) | exact HB.out)) hb); have BK214 := am (hbox); have GW214 := am ((by rw [hg]; exact (keep_size (w := w) (g := g) (row := none) (by repeat (first | (with_reducible first | exact HK.out | apply KeepBut.set_ | apply keep_drewN | apply keep_drew | apply keep_alloc | refine keep_far ?_ GW210.out _) | exact HK.out))) : w.heap.size ≤ gb214)); have GE214 := am ((Nat.le_trans HW0.out (by rw [hg]; exact (keep_size (w := w) (g := g) (row := none) (by repeat (first | (with_reducible first | exact HK.out | apply KeepBut.set_ | apply keep_drewN | apply keep_drew | apply keep_alloc | refine keep_far ?_ GW210.out _) | exact HK.out))) : w.heap.size ≤ gb214) : w0.heap.size ≤ gb214)); replace HK := am (KeepBut.trans (by repeat (first | (with_reducible first | exact HK.out | apply KeepBut.set_ | apply keep_drewN | apply keep_drew | apply keep_alloc | refine keep_far ?_ GW210.out _) | exact HK.out)) (KeepBut.of_below hb g none) (.inl rfl)); have NB210_214 := am ((by rw [hg]; exact Nat.ne_of_lt (blk_lt (g := gb210) (o := .cells #[.int .i64 0, .int .i64 0, .int .i64 0, .string (⟨#[]⟩ : ByteArray), .slice none 0 0] 24 (0, 0)) (bz BK210.out)) : gb210 ≠ gb214)); have NB214_210 := am ((by rw [hg]; exact Nat.ne_of_gt (blk_lt (g := gb210) (o := .cells #[.int .i64 0, .int .i64 0, .int .i64 0, .string (⟨#[]⟩ : ByteArray), .slice none 0 0] 24 (0, 0)) (bz BK210.out)) : gb214 ≠ gb210)); replace BK210 := am (blk_below (g := gb210) (o := .cells #[.int .i64 0, .int .i64 0, .int .i64 0, .string (⟨#[]⟩ : ByteArray), .slice none 0 0] 24 (0, 0)) (bz BK210.out) hb); have NB0_214 := am ((by rw [hg]; exact Nat.ne_of_lt (IsS51.lt (show IsS51 w0 _ g s0_0 t212 from by repeat (first | (with_reducible first | exact HI0.out | apply IsS51.alloc | apply IsS51.drewN | apply IsS51.drew | apply IsS51.set_1 | refine IsS51.far ?_ NB0_210.out _) | exact HI0.out))) : g ≠ gb214)); have NB214_0 := am ((by rw [hg]; exact Nat.ne_of_gt (IsS51.lt (show IsS51 w0 _ g s0_0 t212 from by repeat (first | (with_reducible first | exact HI0.out | apply IsS51.alloc | apply IsS51.drewN | apply IsS51.drew | apply IsS51.set_1 | refine IsS51.far ?_ NB0_210.out _) | exact HI0.out))) : gb214 ≠ g)); replace HI0 := am (IsS51.below (by repeat (first | (with_reducible first | exact HI0.out | apply IsS51.alloc | apply IsS51.drewN | apply IsS51.drew | apply IsS51.set_1 | refine IsS51.far ?_ NB0_210.out _) | exact HI0.out)) hb); clear hb hbox hg; have hnb28 := NB214_210.out; have hnc28 := NB210_214.out; have hnb29 := NB214_0.out; have hnc29 := NB0_214.out; obtain ⟨hcz30_0, hcz30_1, hcz30_2, hcz30_3, hcz30_4⟩ := cs5 BK214.out; obtain ⟨hfz30_0, hfz30_1, hfz30_2, hfz30_3, hfz30_4⟩ := fs5 BK214.out) | ((with_reducible refine gate_callee (f := 31) rfl ?_); refine goesLP_ (some 18) rfl rfl Try.func31 (by kernel_rfl) rfl #[.pointer (some ⟨g, 0, none⟩)] rfl lz ?_; (with_reducible refine (codec_decoder_next.calls g s0_0 t212 t215 t216 t217 w0 _ ?side1 ?side2 A7.out).mono ?_); (case side1 => repeat (first | (with_reducible first | exact HI0.out | apply IsS51.alloc | apply IsS51.drewN | apply IsS51.drew | apply IsS51.set_1 | refine IsS51.far ?_ NB0_210.out _ | refine IsS51.far ?_ NB0_214.out _) | exact HI0.out)); (case side2 => repeat (first | (with_reducible first | exact HB.out | apply below_alloc | apply pw_below_drewN | apply below_drew1 | refine below_set ?_ (IsS51.ge HI0.out) | refine below_set ?_ GE210.out | refine below_set ?_ GE214.out) | exact HB.out)); rintro e w31 ⟨he_, hi, hb, hk⟩; (first | (refine zero_ he_ ?hz_ ?_; (case hz_ => (with_reducible assumption))) | (refine pan_ he_ ?hz_ ?_; (case hz_ => (with_reducible assumption)))); replace BK210 := am (KeepBut.blk hk (g' := gb210) (o := .cells #[.int .i64 0, .int .i64 0, .int .i64 0, .string (⟨#[]⟩ : ByteArray), .slice none 0 0] 24 (0, 0)) (bf1 NB210_214.out BK210.out) NB210_0.out (by simp)); replace BK214 := am (KeepBut.blk hk (g' := gb214) (o := .cells #[.int .i64 t211, .int .i64 0, .int .i64 0, .string (⟨#[]⟩ : ByteArray), .slice none 0 0] 24 (0, 0)) (by (with_reducible repeat (first | refine blk_drewN ?_ _ | refine blk_drew ?_ | refine blk_alloc ?_ _)); refine blk_put (cs := #[.int .i64 t211, .int .i64 0, .int .i64 0, .string (⟨#[]⟩ : ByteArray), .slice none 0 0]) ?_ 4 _ rfl; (with_reducible repeat (first | refine blk_drewN ?_ _ | refine blk_drew ?_ | refine blk_alloc ?_ _)); refine blk_put (cs := #[.int .i64 t211, .int .i64 0, .int .i64 0, .string (⟨#[]⟩ : ByteArray), .slice none 0 0]) ?_ 3 _ rfl; (with_reducible repeat (first | refine blk_drewN ?_ _ | refine blk_drew ?_ | refine blk_alloc ?_ _)); refine blk_put (cs := #[.int .i64 t211, .int .i64 0, .int .i64 0, .string (⟨#[]⟩ : ByteArray), .slice none 0 0]) ?_ 2 _ rfl; (with_reducible repeat (first | refine blk_drewN ?_ _ | refine blk_drew ?_ | refine blk_alloc ?_ _)); refine blk_put (cs := #[.int .i64 t211, .int .i64 0, .int .i64 0, .string (⟨#[]⟩ : ByteArray), .slice none 0 0]) ?_ 1 _ rfl; (with_reducible repeat (first | refine blk_drewN ?_ _ | refine blk_drew ?_ | refine blk_alloc ?_ _)); refine blk_put (cs := #[.int .i64 0, .int .i64 0, .int .i64 0, .string (⟨#[]⟩ : ByteArray), .slice none 0 0]) ?_ 0 _ rfl; (with_reducible repeat (first | refine blk_drewN ?_ _ | refine blk_drew ?_ | refine blk_alloc ?_ _)); exact BK214.out) NB214_0.out (by simp)); replace HK := am (KeepBut.trans (by repeat (first | (with_reducible first | exact HK.out | apply KeepBut.set_ | apply keep_drewN | apply keep_drew | apply keep_alloc | refine keep_far ?_ GW210.out _ | refine keep_far ?_ GW214.out _) | exact HK.out)) hk (.inl rfl)); replace HB := am (hb); replace HI0 := am (hi); (try clear hb); (try clear hb2); (try clear hk); (try clear hi); obtain ⟨hcz32_0, hcz32_1, hcz32_2, hcz32_3, hcz32_4⟩ := cs5 BK214.out; obtain ⟨hfz32_0, hfz32_1, hfz32_2, hfz32_3, hfz32_4⟩ := fs5 BK214.out) | ((with_reducible refine gate_callee (f := 32) rfl ?_); refine goesLP_ (some 28) rfl rfl Try.func32 (by kernel_rfl) rfl #[.pointer (some ⟨g, 0, none⟩)] rfl lz ?_; (with_reducible refine (codec_decoder_varint.calls k g s0_0 t216 t218 t219 t220 w0 _ ?side1 ?side2 A10.out).mono ?_); (case side1 => repeat (first | (with_reducible first | exact HI0.out | apply IsS51.alloc | apply IsS51.drewN | apply IsS51.drew | apply IsS51.set_1 | refine IsS51.far ?_ NB0_210.out _ | refine IsS51.far ?_ NB0_214.out _) | exact HI0.out)); (case side2 => repeat (first | (with_reducible first | exact HB.out | apply below_alloc | apply pw_below_drewN | apply below_drew1 | refine below_set ?_ (IsS51.ge HI0.out) | refine below_set ?_ GE210.out | refine below_set ?_ GE214.out) | exact HB.out)); rintro e w33 ⟨he_, hi, hb, hk⟩; (first | (refine zero_ he_ ?hz_ ?_; (case hz_ => (with_reducible assumption))) | (refine pan_ he_ ?hz_ ?_; (case hz_ => (with_reducible assumption)))); replace BK210 := am (KeepBut.blk hk (g' := gb210) (o := .cells #[.int .i64 0, .int .i64 0, .int .i64 0, .string (⟨#[]⟩ : ByteArray), .slice none 0 0] 24 (0, 0)) (bf1 NB210_214.out BK210.out) NB210_0.out (by simp)); replace BK214 := am (KeepBut.blk hk (g' := gb214) (o := .cells #[.int .i64 t211, .int .i64 (wrap64 (t215)), .int .i64 0, .string (⟨#[]⟩ : ByteArray), .slice none 0 0] 24 (0, 0)) (by (with_reducible repeat (first | refine blk_drewN ?_ _ | refine blk_drew ?_ | refine blk_alloc ?_ _)); refine blk_put (cs := #[.int .i64 t211, .int .i64 0, .int .i64 0, .string (⟨#[]⟩ : ByteArray), .slice none 0 0]) ?_ 1 _ rfl; (with_reducible repeat (first | refine blk_drewN ?_ _ | refine blk_drew ?_ | refine blk_alloc ?_ _)); exact BK214.out) NB214_0.out (by simp)); replace HK := am (KeepBut.trans (by repeat (first | (with_reducible first | exact HK.out | apply KeepBut.set_ | apply keep_drewN | apply keep_drew | apply keep_alloc | refine keep_far ?_ GW210.out _ | refine keep_far ?_ GW214.out _) | exact HK.out)) hk (.inl rfl)); replace HB := am (hb); replace HI0 := am (hi); (try clear hb); (try clear hb2); (try clear hk); (try clear hi); obtain ⟨hcz34_0, hcz34_1, hcz34_2, hcz34_3, hcz34_4⟩ := cs5 BK214.out; obtain ⟨hfz34_0, hfz34_1, hfz34_2, hfz34_3, hfz34_4⟩ := fs5 BK214.out; have hnb35 := NB210_0.out; have hnc35 := NB0_210.out; obtain ⟨hcz36_0, hcz36_1, hcz36_2, hcz36_3, hcz36_4⟩ := cs5 BK210.out; obtain ⟨hfz36_0, hfz36_1, hfz36_2, hfz36_3, hfz36_4⟩ := fs5 BK210.out))
       refine bodyPost_ret (results_cell_row rfl _ _ gb210 24 #[.int .i64 t211, .int .i64 (wrap64 (t215)), .int .i64 (wrap64 (t218 / 2)), .string (⟨#[]⟩ : ByteArray), .slice none 0 0] (0, 0) _ rfl (by (with_reducible repeat (first | refine blk_drewN ?_ _ | refine blk_drew ?_ | refine blk_alloc ?_ _)); refine blk_put (cs := #[.int .i64 t211, .int .i64 (wrap64 (t215)), .int .i64 (wrap64 (t218 / 2)), .string (⟨#[]⟩ : ByteArray), .slice none 0 0]) ?_ 4 _ rfl; (with_reducible repeat (first | refine blk_drewN ?_ _ | refine blk_drew ?_ | refine blk_alloc ?_ _)); refine blk_put (cs := #[.int .i64 t211, .int .i64 (wrap64 (t215)), .int .i64 (wrap64 (t218 / 2)), .string (⟨#[]⟩ : ByteArray), .slice none 0 0]) ?_ 3 _ rfl; (with_reducible repeat (first | refine blk_drewN ?_ _ | refine blk_drew ?_ | refine blk_alloc ?_ _)); refine blk_put (cs := #[.int .i64 t211, .int .i64 (wrap64 (t215)), .int .i64 0, .string (⟨#[]⟩ : ByteArray), .slice none 0 0]) ?_ 2 _ rfl; (with_reducible repeat (first | refine blk_drewN ?_ _ | refine blk_drew ?_ | refine blk_alloc ?_ _)); refine blk_put (cs := #[.int .i64 t211, .int .i64 0, .int .i64 0, .string (⟨#[]⟩ : ByteArray), .slice none 0 0]) ?_ 1 _ rfl; (with_reducible repeat (first | refine blk_drewN ?_ _ | refine blk_drew ?_ | refine blk_alloc ?_ _)); refine blk_put (cs := #[.int .i64 0, .int .i64 0, .int .i64 0, .string (⟨#[]⟩ : ByteArray), .slice none 0 0]) ?_ 0 _ rfl; (with_reducible repeat (first | refine blk_drewN ?_ _ | refine blk_drew ?_ | refine blk_alloc ?_ _)); refine blk_far ?_ NB210_214.out _; (with_reducible repeat (first | refine blk_drewN ?_ _ | refine blk_drew ?_ | refine blk_alloc ?_ _)); exact BK210.out) Try.underlying24 rfl (by kernel_rfl)) rfl ?_
       exact ⟨_, by first | rfl | (refine pan_eq ?_; assumption) | (simp [errW_none, errW_some] <;> rfl) | (simp [*, errW_none, errW_some] <;> rfl), by first | exact Kd.R_nil _ _ _ _ _ | exact Kd.N_nil _ _ _ _ _ | exact Kd.V_nil _ _ _ _ _ | exact Kd.Q_nil _ _ _ _ _ | exact Kd.S_nil _ _ _ _ _, by repeat (first | (with_reducible first | exact HI0.out | apply IsS51.alloc | apply IsS51.drewN | apply IsS51.drew | apply IsS51.set_1 | refine IsS51.far ?_ NB0_210.out _ | refine IsS51.far ?_ NB0_214.out _) | exact HI0.out), by repeat (first | (with_reducible first | exact HB.out | apply below_alloc | apply pw_below_drewN | apply below_drew1 | refine below_set ?_ (IsS51.ge HI0.out) | refine below_set ?_ GE210.out | refine below_set ?_ GE214.out) | exact HB.out), by repeat (first | (with_reducible first | exact HK.out | apply KeepBut.set_ | apply keep_drewN | apply keep_drew | apply keep_alloc | refine keep_far ?_ GW210.out _ | refine keep_far ?_ GW214.out _) | exact HK.out)⟩
     ·
      rw [if_neg c11] at H
      have c11b0 : (t220 == 0) = false := beq_eq_false_iff_ne.mpr c11
      have c11b1 : (t220 != 0) = true := bne_iff_ne.mpr c11
      simp only [Option.some.injEq, Prod.mk.injEq] at H
      obtain ⟨rfl, rfl, rfl, rfl, rfl, rfl, rfl⟩ := H
      go_enter Try.func24, Try.ntmps24
      go_wp2_with (first | ((with_reducible refine gate_dst (N := 4) rfl ?_); refine box_event ?hg (N := 4) ?hd (cs := #[.int .i64 0, .int .i64 0, .int .i64 0, .string (⟨#[]⟩ : ByteArray), .slice none 0 0]) (t := 24) ?hr ?_; (case hd => rfl); (case hg => rfl); (case hr => exact gz); intro gb210 hg w37 hbox hb; replace HB := am (below_step (by repeat (first | (with_reducible first | exact HB.out | apply below_alloc | apply pw_below_drewN | apply below_drew1 | refine below_set ?_ (IsS51.ge HI0.out)) | exact HB.out)) hb); have BK210 := am (hbox); have GW210 := am ((by rw [hg]; exact (keep_size (w := w) (g := g) (row := none) (by repeat (first | (with_reducible first | exact HK.out | apply KeepBut.set_ | apply keep_drewN | apply keep_drew | apply keep_alloc) | exact HK.out))) : w.heap.size ≤ gb210)); have GE210 := am ((Nat.le_trans HW0.out (by rw [hg]; exact (keep_size (w := w) (g := g) (row := none) (by repeat (first | (with_reducible first | exact HK.out | apply KeepBut.set_ | apply keep_drewN | apply keep_drew | apply keep_alloc) | exact HK.out))) : w.heap.size ≤ gb210) : w0.heap.size ≤ gb210)); replace HK := am (KeepBut.trans (by repeat (first | (with_reducible first | exact HK.out | apply KeepBut.set_ | apply keep_drewN | apply keep_drew | apply keep_alloc) | exact HK.out)) (KeepBut.of_below hb g none) (.inl rfl)); have NB0_210 := am ((by rw [hg]; exact Nat.ne_of_lt (IsS51.lt (show IsS51 w0 _ g s0_0 s0_1 from by repeat (first | (with_reducible first | exact HI0.out | apply IsS51.alloc | apply IsS51.drewN | apply IsS51.drew | apply IsS51.set_1) | exact HI0.out))) : g ≠ gb210)); have NB210_0 := am ((by rw [hg]; exact Nat.ne_of_gt (IsS51.lt (show IsS51 w0 _ g s0_0 s0_1 from by repeat (first | (with_reducible first | exact HI0.out | apply IsS51.alloc | apply IsS51.drewN | apply IsS51.drew | apply IsS51.set_1) | exact HI0.out))) : gb210 ≠ g)); replace HI0 := am (IsS51.below (by repeat (first | (with_reducible first | exact HI0.out | apply IsS51.alloc | apply IsS51.drewN | apply IsS51.drew | apply IsS51.set_1) | exact HI0.out)) hb); clear hb hbox hg) | ((with_reducible refine gate_callee (f := 30) rfl ?_); refine goesLP_ (some 15) rfl rfl Try.func30 (by kernel_rfl) rfl #[.pointer (some ⟨g, 0, none⟩), .int .u64 9999999, .int .i64 3] rfl lz ?_; (with_reducible refine (codec_decoder_limited.calls k g s0_0 s0_1 9999999 3 t211 t212 t213 w0 _ ?side1 ?side2 A5.out).mono ?_); (case side1 => repeat (first | (with_reducible first | exact HI0.out | apply IsS51.alloc | apply IsS51.drewN | apply IsS51.drew | apply IsS51.set_1 | refine IsS51.far ?_ NB0_210.out _) | exact HI0.out)); (case side2 => repeat (first | (with_reducible first | exact HB.out | apply below_alloc | apply pw_below_drewN | apply below_drew1 | refine below_set ?_ (IsS51.ge HI0.out) | refine below_set ?_ GE210.out) | exact HB.out)); rintro e w38 ⟨he_, hi, hb, hk⟩; (first | (refine zero_ he_ ?hz_ ?_; (case hz_ => (with_reducible assumption))) | (refine pan_ he_ ?hz_ ?_; (case hz_ => (with_reducible assumption)))); replace BK210 := am (KeepBut.blk hk (g' := gb210) (o := .cells #[.int .i64 0, .int .i64 0, .int .i64 0, .string (⟨#[]⟩ : ByteArray), .slice none 0 0] 24 (0, 0)) (bz BK210.out) NB210_0.out (by simp)); replace HK := am (KeepBut.trans (by repeat (first | (with_reducible first | exact HK.out | apply KeepBut.set_ | apply keep_drewN | apply keep_drew | apply keep_alloc | refine keep_far ?_ GW210.out _) | exact HK.out)) hk (.inl rfl)); replace HB := am (hb); replace HI0 := am (hi); (try clear hb); (try clear hb2); (try clear hk); (try clear hi)) | ((with_reducible refine gate_dst (N := 5) rfl ?_); refine box_event ?hg (N := 5) ?hd (cs := #[.int .i64 0, .int .i64 0, .int .i64 0, .string (⟨#[]⟩ : ByteArray), .slice none 0 0]) (t := 24) ?hr ?_; (case hd => rfl); (case hg => rfl); (case hr => exact gz); intro gb214 hg w39 hbox hb; replace HB := am (below_step (by repeat (first | (with_reducible first | exact HB.out | apply below_alloc | apply pw_below_drewN | apply below_drew1 | refine below_set ?_ (IsS51.ge HI0.out) | refine below_set ?_ GE210.out) | exact HB.out)) hb); have BK214 := am (hbox); have GW214 := am ((by rw [hg]; exact (keep_size (w := w) (g := g) (row := none) (by repeat (first | (with_reducible first | exact HK.out | apply KeepBut.set_ | apply keep_drewN | apply keep_drew | apply keep_alloc | refine keep_far ?_ GW210.out _) | exact HK.out))) : w.heap.size ≤ gb214)); have GE214 := am ((Nat.le_trans HW0.out (by rw [hg]; exact (keep_size (w := w) (g := g) (row := none) (by repeat (first | (with_reducible first | exact HK.out | apply KeepBut.set_ | apply keep_drewN | apply keep_drew | apply keep_alloc | refine keep_far ?_ GW210.out _) | exact HK.out))) : w.heap.size ≤ gb214) : w0.heap.size ≤ gb214)); replace HK := am (KeepBut.trans (by repeat (first | (with_reducible first | exact HK.out | apply KeepBut.set_ | apply keep_drewN | apply keep_drew | apply keep_alloc | refine keep_far ?_ GW210.out _) | exact HK.out)) (KeepBut.of_below hb g none) (.inl rfl)); have NB210_214 := am ((by rw [hg]; exact Nat.ne_of_lt (blk_lt (g := gb210) (o := .cells #[.int .i64 0, .int .i64 0, .int .i64 0, .string (⟨#[]⟩ : ByteArray), .slice none 0 0] 24 (0, 0)) (bz BK210.out)) : gb210 ≠ gb214)); have NB214_210 := am ((by rw [hg]; exact Nat.ne_of_gt (blk_lt (g := gb210) (o := .cells #[.int .i64 0, .int .i64 0, .int .i64 0, .string (⟨#[]⟩ : ByteArray), .slice none 0 0] 24 (0, 0)) (bz BK210.out)) : gb214 ≠ gb210)); replace BK210 := am (blk_below (g := gb210) (o := .cells #[.int .i64 0, .int .i64 0, .int .i64 0, .string (⟨#[]⟩ : ByteArray), .slice none 0 0] 24 (0, 0)) (bz BK210.out) hb); have NB0_214 := am ((by rw [hg]; exact Nat.ne_of_lt (IsS51.lt (show IsS51 w0 _ g s0_0 t212 from by repeat (first | (with_reducible first | exact HI0.out | apply IsS51.alloc | apply IsS51.drewN | apply IsS51.drew | apply IsS51.set_1 | refine IsS51.far ?_ NB0_210.out _) | exact HI0.out))) : g ≠ gb214)); have NB214_0 := am ((by rw [hg]; exact Nat.ne_of_gt (IsS51.lt (show IsS51 w0 _ g s0_0 t212 from by repeat (first | (with_reducible first | exact HI0.out | apply IsS51.alloc | apply IsS51.drewN | apply IsS51.drew | apply IsS51.set_1 | refine IsS51.far ?_ NB0_210.out _) | exact HI0.out))) : gb214 ≠ g)); replace HI0 := am (IsS51.below (by repeat (first | (with_reducible first | exact HI0.out | apply IsS51.alloc | apply IsS51.drewN | apply IsS51.drew | apply IsS51.set_1 | refine IsS51.far ?_ NB0_210.out _) | exact HI0.out)) hb); clear hb hbox hg; have hnb40 := NB214_210.out; have hnc40 := NB210_214.out; have hnb41 := NB214_0.out; have hnc41 := NB0_214.out; obtain ⟨hcz42_0, hcz42_1, hcz42_2, hcz42_3, hcz42_4⟩ := cs5 BK214.out; obtain ⟨hfz42_0, hfz42_1, hfz42_2, hfz42_3, hfz42_4⟩ := fs5 BK214.out) | ((with_reducible refine gate_callee (f := 31) rfl ?_); refine goesLP_ (some 18) rfl rfl Try.func31 (by kernel_rfl) rfl #[.pointer (some ⟨g, 0, none⟩)] rfl lz ?_; (with_reducible refine (codec_decoder_next.calls g s0_0 t212 t215 t216 t217 w0 _ ?side1 ?side2 A7.out).mono ?_); (case side1 => repeat (first | (with_reducible first | exact HI0.out | apply IsS51.alloc | apply IsS51.drewN | apply IsS51.drew | apply IsS51.set_1 | refine IsS51.far ?_ NB0_210.out _ | refine IsS51.far ?_ NB0_214.out _) | exact HI0.out)); (case side2 => repeat (first | (with_reducible first | exact HB.out | apply below_alloc | apply pw_below_drewN | apply below_drew1 | refine below_set ?_ (IsS51.ge HI0.out) | refine below_set ?_ GE210.out | refine below_set ?_ GE214.out) | exact HB.out)); rintro e w43 ⟨he_, hi, hb, hk⟩; (first | (refine zero_ he_ ?hz_ ?_; (case hz_ => (with_reducible assumption))) | (refine pan_ he_ ?hz_ ?_; (case hz_ => (with_reducible assumption)))); replace BK210 := am (KeepBut.blk hk (g' := gb210) (o := .cells #[.int .i64 0, .int .i64 0, .int .i64 0, .string (⟨#[]⟩ : ByteArray), .slice none 0 0] 24 (0, 0)) (bf1 NB210_214.out BK210.out) NB210_0.out (by simp)); replace BK214 := am (KeepBut.blk hk (g' := gb214) (o := .cells #[.int .i64 t211, .int .i64 0, .int .i64 0, .string (⟨#[]⟩ : ByteArray), .slice none 0 0] 24 (0, 0)) (by (with_reducible repeat (first | refine blk_drewN ?_ _ | refine blk_drew ?_ | refine blk_alloc ?_ _)); refine blk_put (cs := #[.int .i64 t211, .int .i64 0, .int .i64 0, .string (⟨#[]⟩ : ByteArray), .slice none 0 0]) ?_ 4 _ rfl; (with_reducible repeat (first | refine blk_drewN ?_ _ | refine blk_drew ?_ | refine blk_alloc ?_ _)); refine blk_put (cs := #[.int .i64 t211, .int .i64 0, .int .i64 0, .string (⟨#[]⟩ : ByteArray), .slice none 0 0]) ?_ 3 _ rfl; (with_reducible repeat (first | refine blk_drewN ?_ _ | refine blk_drew ?_ | refine blk_alloc ?_ _)); refine blk_put (cs := #[.int .i64 t211, .int .i64 0, .int .i64 0, .string (⟨#[]⟩ : ByteArray), .slice none 0 0]) ?_ 2 _ rfl; (with_reducible repeat (first | refine blk_drewN ?_ _ | refine blk_drew ?_ | refine blk_alloc ?_ _)); refine blk_put (cs := #[.int .i64 t211, .int .i64 0, .int .i64 0, .string (⟨#[]⟩ : ByteArray), .slice none 0 0]) ?_ 1 _ rfl; (with_reducible repeat (first | refine blk_drewN ?_ _ | refine blk_drew ?_ | refine blk_alloc ?_ _)); refine blk_put (cs := #[.int .i64 0, .int .i64 0, .int .i64 0, .string (⟨#[]⟩ : ByteArray), .slice none 0 0]) ?_ 0 _ rfl; (with_reducible repeat (first | refine blk_drewN ?_ _ | refine blk_drew ?_ | refine blk_alloc ?_ _)); exact BK214.out) NB214_0.out (by simp)); replace HK := am (KeepBut.trans (by repeat (first | (with_reducible first | exact HK.out | apply KeepBut.set_ | apply keep_drewN | apply keep_drew | apply keep_alloc | refine keep_far ?_ GW210.out _ | refine keep_far ?_ GW214.out _) | exact HK.out)) hk (.inl rfl)); replace HB := am (hb); replace HI0 := am (hi); (try clear hb); (try clear hb2); (try clear hk); (try clear hi); obtain ⟨hcz44_0, hcz44_1, hcz44_2, hcz44_3, hcz44_4⟩ := cs5 BK214.out; obtain ⟨hfz44_0, hfz44_1, hfz44_2, hfz44_3, hfz44_4⟩ := fs5 BK214.out) | ((with_reducible refine gate_callee (f := 32) rfl ?_); refine goesLP_ (some 28) rfl rfl Try.func32 (by kernel_rfl) rfl #[.pointer (some ⟨g, 0, none⟩)] rfl lz ?_; (with_reducible refine (codec_decoder_varint.calls k g s0_0 t216 t218 t219 t220 w0 _ ?side1 ?side2 A10.out).mono ?_); (case side1 => repeat (first | (with_reducible first | exact HI0.out | apply IsS51.alloc | apply IsS51.drewN | apply IsS51.drew | apply IsS51.set_1 | refine IsS51.far ?_ NB0_210.out _ | refine IsS51.far ?_ NB0_214.out _) | exact HI0.out)); (case side2 => repeat (first | (with_reducible first | exact HB.out | apply below_alloc | apply pw_below_drewN | apply below_drew1 | refine below_set ?_ (IsS51.ge HI0.out) | refine below_set ?_ GE210.out | refine below_set ?_ GE214.out) | exact HB.out)); rintro e w45 ⟨he_, hi, hb, hk⟩; (first | (refine zero_ he_ ?hz_ ?_; (case hz_ => (with_reducible assumption))) | (refine pan_ he_ ?hz_ ?_; (case hz_ => (with_reducible assumption)))); replace BK210 := am (KeepBut.blk hk (g' := gb210) (o := .cells #[.int .i64 0, .int .i64 0, .int .i64 0, .string (⟨#[]⟩ : ByteArray), .slice none 0 0] 24 (0, 0)) (bf1 NB210_214.out BK210.out) NB210_0.out (by simp)); replace BK214 := am (KeepBut.blk hk (g' := gb214) (o := .cells #[.int .i64 t211, .int .i64 (wrap64 (t215)), .int .i64 0, .string (⟨#[]⟩ : ByteArray), .slice none 0 0] 24 (0, 0)) (by (with_reducible repeat (first | refine blk_drewN ?_ _ | refine blk_drew ?_ | refine blk_alloc ?_ _)); refine blk_put (cs := #[.int .i64 t211, .int .i64 0, .int .i64 0, .string (⟨#[]⟩ : ByteArray), .slice none 0 0]) ?_ 1 _ rfl; (with_reducible repeat (first | refine blk_drewN ?_ _ | refine blk_drew ?_ | refine blk_alloc ?_ _)); exact BK214.out) NB214_0.out (by simp)); replace HK := am (KeepBut.trans (by repeat (first | (with_reducible first | exact HK.out | apply KeepBut.set_ | apply keep_drewN | apply keep_drew | apply keep_alloc | refine keep_far ?_ GW210.out _ | refine keep_far ?_ GW214.out _) | exact HK.out)) hk (.inl rfl)); replace HB := am (hb); replace HI0 := am (hi); (try clear hb); (try clear hb2); (try clear hk); (try clear hi)))
      refine ⟨rfl, ?_⟩
      exact ⟨_, by first | rfl | (refine pan_eq ?_; assumption) | (simp [errW_none, errW_some] <;> rfl) | (simp [*, errW_none, errW_some] <;> rfl), by first | exact Kd.R_nil _ _ _ _ _ | exact Kd.N_nil _ _ _ _ _ | exact Kd.V_nil _ _ _ _ _ | exact Kd.Q_nil _ _ _ _ _ | exact Kd.S_nil _ _ _ _ _, by repeat (first | (with_reducible first | exact HI0.out | apply IsS51.alloc | apply IsS51.drewN | apply IsS51.drew | apply IsS51.set_1 | refine IsS51.far ?_ NB0_210.out _ | refine IsS51.far ?_ NB0_214.out _) | exact HI0.out), by repeat (first | (with_reducible first | exact HB.out | apply below_alloc | apply pw_below_drewN | apply below_drew1 | refine below_set ?_ (IsS51.ge HI0.out) | refine below_set ?_ GE210.out | refine below_set ?_ GE214.out) | exact HB.out), by repeat (first | (with_reducible first | exact HK.out | apply KeepBut.set_ | apply keep_drewN | apply keep_drew | apply keep_alloc | refine keep_far ?_ GW210.out _ | refine keep_far ?_ GW214.out _) | exact HK.out)⟩
    ·
     rw [if_neg c9] at H
     have c9b0 : ((wrap64 (t215)) == 1) = false := beq_eq_false_iff_ne.mpr c9
     have c9b1 : ((wrap64 (t215)) != 1) = true := bne_iff_ne.mpr c9
     by_cases c46 : (wrap64 (t215)) = 2
     ·
      rw [if_pos c46] at H
      have c46b0 : ((wrap64 (t215)) == 2) = true := beq_iff_eq.mpr c46
      have c46b1 : ((wrap64 (t215)) != 2) = false := bne_eq_false_iff_eq.mpr c46
      clear c46
      replace H := Option.bind_eq_some_iff.mp H
      obtain ⟨⟨t221, t222, t223⟩, A470, H⟩ := H
      replace H : (if t223 = 0 then (if 0 ≤ t221 then (if (t221 : Int).toNat ≤ 281474976710656 then (codec_decoder_node.l0 k (([] : List Int)) t221 0 s0_0 t222 t211 (wrap64 (t215)) 0 (⟨#[]⟩ : ByteArray)) else (none)) else (none)) else (some (0, 0, 0, (⟨#[]⟩ : ByteArray), ([] : List (S24)), t222, t223))) = some (r1, r2, r3, r4, r5, r6, r7) := H
      have A47 := am A470
      clear A470
      by_cases c48 : t223 = 0
      ·
       rw [if_pos c48] at H
       have c48b0 : (t223 == 0) = true := beq_iff_eq.mpr c48
       have c48b1 : (t223 != 0) = false := bne_eq_false_iff_eq.mpr c48
       clear c48
       replace H := it_ H
       obtain ⟨c49, H⟩ := H
       have c49b0 := eq_true c49
       have c49b1 : decide (0 ≤ t221) = true := decide_eq_true c49
       clear c49
       replace H := it_ H
       obtain ⟨c50, H⟩ := H
       have c50b0 := eq_true c50
       have c50b1 : decide ((t221 : Int).toNat ≤ 281474976710656) = true := decide_eq_true c50
       clear c50
       obtain ⟨y224, hy224⟩ : ∃ y_ : List Int, y_ = (([] : List Int)) := ⟨_, rfl⟩
       replace H : (codec_decoder_node.l0 k y224 t221 0 s0_0 t222 t211 (wrap64 (t215)) 0 (⟨#[]⟩ : ByteArray)) = some (r1, r2, r3, r4, r5, r6, r7) := by first | (rw [hy224]; with_reducible exact H) | (have H2_ := (Option.bind_some _ _).symm.trans H; rw [hy224]; with_reducible exact H2_) | (have H2_ := (Option.bind_some _ _).symm.trans H; with_reducible exact H2_) | with_reducible exact H | (rw [hy224]; exact H) | exact H
       have Ny224 := am hy224
       clear hy224
       have H' := am H
       clear H
       go_enter Try.func24, Try.ntmps24
       go_wp2_with (first | ((with_reducible refine gate_dst (N := 4) rfl ?_); refine box_event ?hg (N := 4) ?hd (cs := #[.int .i64 0, .int .i64 0, .int .i64 0, .string (⟨#[]⟩ : ByteArray), .slice none 0 0]) (t := 24) ?hr ?_; (case hd => rfl); (case hg => rfl); (case hr => exact gz); intro gb210 hg w51 hbox hb; replace HB := am (below_step (by repeat (first | (with_reducible first | exact HB.out | apply below_alloc | apply pw_below_drewN | apply below_drew1 | refine below_set ?_ (IsS51.ge HI0.out)) | exact HB.out)) hb); have BK210 := am (hbox); have GW210 := am ((by rw [hg]; exact (keep_size (w := w) (g := g) (row := none) (by repeat (first | (with_reducible first | exact HK.out | apply KeepBut.set_ | apply keep_drewN | apply keep_drew | apply keep_alloc) | exact HK.out))) : w.heap.size ≤ gb210)); have GE210 := am ((Nat.le_trans HW0.out (by rw [hg]; exact (keep_size (w := w) (g := g) (row := none) (by repeat (first | (with_reducible first | exact HK.out | apply KeepBut.set_ | apply keep_drewN | apply keep_drew | apply keep_alloc) | exact HK.out))) : w.heap.size ≤ gb210) : w0.heap.size ≤ gb210)); replace HK := am (KeepBut.trans (by repeat (first | (with_reducible first | exact HK.out | apply KeepBut.set_ | apply keep_drewN | apply keep_drew | apply keep_alloc) | exact HK.out)) (KeepBut.of_below hb g none) (.inl rfl)); have NB0_210 := am ((by rw [hg]; exact Nat.ne_of_lt (IsS51.lt (show IsS51 w0 _ g s0_0 s0_1 from by repeat (first | (with_reducible first | exact HI0.out | apply IsS51.alloc | apply IsS51.drewN | apply IsS51.drew | apply IsS51.set_1) | exact HI0.out))) : g ≠ gb210)); have NB210_0 := am ((by rw [hg]; exact Nat.ne_of_gt (IsS51.lt (show IsS51 w0 _ g s0_0 s0_1 from by repeat (first | (with_reducible first | exact HI0.out | apply IsS51.alloc | apply IsS51.drewN | apply IsS51.drew | apply IsS51.set_1) | exact HI0.out))) : gb210 ≠ g)); replace HI0 := am (IsS51.below (by repeat (first | (with_reducible first | exact HI0.out | apply IsS51.alloc | apply IsS51.drewN | apply IsS51.drew | apply IsS51.set_1) | exact HI0.out)) hb); clear hb hbox hg) | ((with_reducible refine gate_callee (f := 30) rfl ?_); refine goesLP_ (some 15) rfl rfl Try.func30 (by kernel_rfl) rfl #[.pointer (some ⟨g, 0, none⟩), .int .u64 9999999, .int .i64 3] rfl lz ?_; (with_reducible refine (codec_decoder_limited.calls k g s0_0 s0_1 9999999 3 t211 t212 t213 w0 _ ?side1 ?side2 A5.out).mono ?_); (case side1 => repeat (first | (with_reducible first | exact HI0.out | apply IsS51.alloc | apply IsS51.drewN | apply IsS51.drew | apply IsS51.set_1 | refine IsS51.far ?_ NB0_210.out _) | exact HI0.out)); (case side2 => repeat (first | (with_reducible first | exact HB.out | apply below_alloc | apply pw_below_drewN | apply below_drew1 | refine below_set ?_ (IsS51.ge HI0.out) | refine below_set ?_ GE210.out) | exact HB.out)); rintro e w52 ⟨he_, hi, hb, hk⟩; (first | (refine zero_ he_ ?hz_ ?_; (case hz_ => (with_reducible assumption))) | (refine pan_ he_ ?hz_ ?_; (case hz_ => (with_reducible assumption)))); replace BK210 := am (KeepBut.blk hk (g' := gb210) (o := .cells #[.int .i64 0, .int .i64 0, .int .i64 0, .string (⟨#[]⟩ : ByteArray), .slice none 0 0] 24 (0, 0)) (bz BK210.out) NB210_0.out (by simp)); replace HK := am (KeepBut.trans (by repeat (first | (with_reducible first | exact HK.out | apply KeepBut.set_ | apply keep_drewN | apply keep_drew | apply keep_alloc | refine keep_far ?_ GW210.out _) | exact HK.out)) hk (.inl rfl)); replace HB := am (hb); replace HI0 := am (hi); (try clear hb); (try clear hb2); (try clear hk); (try clear hi)) | ((with_reducible refine gate_dst (N := 5) rfl ?_); refine box_event ?hg (N := 5) ?hd (cs := #[.int .i64 0, .int .i64 0, .int .i64 0, .string (⟨#[]⟩ : ByteArray), .slice none 0 0]) (t := 24) ?hr ?_; (case hd => rfl); (case hg => rfl); (case hr => exact gz); intro gb214 hg w53 hbox hb; replace HB := am (below_step (by repeat (first | (with_reducible first | exact HB.out | apply below_alloc | apply pw_below_drewN | apply below_drew1 | refine below_set ?_ (IsS51.ge HI0.out) | refine below_set ?_ GE210.out) | exact HB.out)) hb); have BK214 := am (hbox); have GW214 := am ((by rw [hg]; exact (keep_size (w := w) (g := g) (row := none) (by repeat (first | (with_reducible first | exact HK.out | apply KeepBut.set_ | apply keep_drewN | apply keep_drew | apply keep_alloc | refine keep_far ?_ GW210.out _) | exact HK.out))) : w.heap.size ≤ gb214)); have GE214 := am ((Nat.le_trans HW0.out (by rw [hg]; exact (keep_size (w := w) (g := g) (row := none) (by repeat (first | (with_reducible first | exact HK.out | apply KeepBut.set_ | apply keep_drewN | apply keep_drew | apply keep_alloc | refine keep_far ?_ GW210.out _) | exact HK.out))) : w.heap.size ≤ gb214) : w0.heap.size ≤ gb214)); replace HK := am (KeepBut.trans (by repeat (first | (with_reducible first | exact HK.out | apply KeepBut.set_ | apply keep_drewN | apply keep_drew | apply keep_alloc | refine keep_far ?_ GW210.out _) | exact HK.out)) (KeepBut.of_below hb g none) (.inl rfl)); have NB210_214 := am ((by rw [hg]; exact Nat.ne_of_lt (blk_lt (g := gb210) (o := .cells #[.int .i64 0, .int .i64 0, .int .i64 0, .string (⟨#[]⟩ : ByteArray), .slice none 0 0] 24 (0, 0)) (bz BK210.out)) : gb210 ≠ gb214)); have NB214_210 := am ((by rw [hg]; exact Nat.ne_of_gt (blk_lt (g := gb210) (o := .cells #[.int .i64 0, .int .i64 0, .int .i64 0, .string (⟨#[]⟩ : ByteArray), .slice none 0 0] 24 (0, 0)) (bz BK210.out)) : gb214 ≠ gb210)); replace BK210 := am (blk_below (g := gb210) (o := .cells #[.int .i64 0, .int .i64 0, .int .i64 0, .string (⟨#[]⟩ : ByteArray), .slice none 0 0] 24 (0, 0)) (bz BK210.out) hb); have NB0_214 := am ((by rw [hg]; exact Nat.ne_of_lt (IsS51.lt (show IsS51 w0 _ g s0_0 t212 from by repeat (first | (with_reducible first | exact HI0.out | apply IsS51.alloc | apply IsS51.drewN | apply IsS51.drew | apply IsS51.set_1 | refine IsS51.far ?_ NB0_210.out _) | exact HI0.out))) : g ≠ gb214)); have NB214_0 := am ((by rw [hg]; exact Nat.ne_of_gt (IsS51.lt (show IsS51 w0 _ g s0_0 t212 from by repeat (first | (with_reducible first | exact HI0.out | apply IsS51.alloc | apply IsS51.drewN | apply IsS51.drew | apply IsS51.set_1 | refine IsS51.far ?_ NB0_210.out _) | exact HI0.out))) : gb214 ≠ g)); replace HI0 := am (IsS51.below (by repeat (first | (with_reducible first | exact HI0.out | apply IsS51.alloc | apply IsS51.drewN | apply IsS51.drew | apply IsS51.set_1 | refine IsS51.far ?_ NB0_210.out _) | exact HI0.out)) hb); clear hb hbox hg; have hnb54 := NB214_210.out; have hnc54 := NB210_214.out; have hnb55 := NB214_0.out; have hnc55 := NB0_214.out; obtain ⟨hcz56_0, hcz56_1, hcz56_2, hcz56_3, hcz56_4⟩ := cs5 BK214.out; obtain ⟨hfz56_0, hfz56_1, hfz56_2, hfz56_3, hfz56_4⟩ := fs5 BK214.out) | ((with_reducible refine gate_callee (f := 31) rfl ?_); refine goesLP_ (some 18) rfl rfl Try.func31 (by kernel_rfl) rfl #[.pointer (some ⟨g, 0, none⟩)] rfl lz ?_; (with_reducible refine (codec_decoder_next.calls g s0_0 t212 t215 t216 t217 w0 _ ?side1 ?side2 A7.out).mono ?_); (case side1 => repeat (first | (with_reducible first | exact HI0.out | apply IsS51.alloc | apply IsS51.drewN | apply IsS51.drew | apply IsS51.set_1 | refine IsS51.far ?_ NB0_210.out _ | refine IsS51.far ?_ NB0_214.out _) | exact HI0.out)); (case side2 => repeat (first | (with_reducible first | exact HB.out | apply below_alloc | apply pw_below_drewN | apply below_drew1 | refine below_set ?_ (IsS51.ge HI0.out) | refine below_set ?_ GE210.out | refine below_set ?_ GE214.out) | exact HB.out)); rintro e w57 ⟨he_, hi, hb, hk⟩; (first | (refine zero_ he_ ?hz_ ?_; (case hz_ => (with_reducible assumption))) | (refine pan_ he_ ?hz_ ?_; (case hz_ => (with_reducible assumption)))); replace BK210 := am (KeepBut.blk hk (g' := gb210) (o := .cells #[.int .i64 0, .int .i64 0, .int .i64 0, .string (⟨#[]⟩ : ByteArray), .slice none 0 0] 24 (0, 0)) (bf1 NB210_214.out BK210.out) NB210_0.out (by simp)); replace BK214 := am (KeepBut.blk hk (g' := gb214) (o := .cells #[.int .i64 t211, .int .i64 0, .int .i64 0, .string (⟨#[]⟩ : ByteArray), .slice none 0 0] 24 (0, 0)) (by (with_reducible repeat (first | refine blk_drewN ?_ _ | refine blk_drew ?_ | refine blk_alloc ?_ _)); refine blk_put (cs := #[.int .i64 t211, .int .i64 0, .int .i64 0, .string (⟨#[]⟩ : ByteArray), .slice none 0 0]) ?_ 4 _ rfl; (with_reducible repeat (first | refine blk_drewN ?_ _ | refine blk_drew ?_ | refine blk_alloc ?_ _)); refine blk_put (cs := #[.int .i64 t211, .int .i64 0, .int .i64 0, .string (⟨#[]⟩ : ByteArray), .slice none 0 0]) ?_ 3 _ rfl; (with_reducible repeat (first | refine blk_drewN ?_ _ | refine blk_drew ?_ | refine blk_alloc ?_ _)); refine blk_put (cs := #[.int .i64 t211, .int .i64 0, .int .i64 0, .string (⟨#[]⟩ : ByteArray), .slice none 0 0]) ?_ 2 _ rfl; (with_reducible repeat (first | refine blk_drewN ?_ _ | refine blk_drew ?_ | refine blk_alloc ?_ _)); refine blk_put (cs := #[.int .i64 t211, .int .i64 0, .int .i64 0, .string (⟨#[]⟩ : ByteArray), .slice none 0 0]) ?_ 1 _ rfl; (with_reducible repeat (first | refine blk_drewN ?_ _ | refine blk_drew ?_ | refine blk_alloc ?_ _)); refine blk_put (cs := #[.int .i64 0, .int .i64 0, .int .i64 0, .string (⟨#[]⟩ : ByteArray), .slice none 0 0]) ?_ 0 _ rfl; (with_reducible repeat (first | refine blk_drewN ?_ _ | refine blk_drew ?_ | refine blk_alloc ?_ _)); exact BK214.out) NB214_0.out (by simp)); replace HK := am (KeepBut.trans (by repeat (first | (with_reducible first | exact HK.out | apply KeepBut.set_ | apply keep_drewN | apply keep_drew | apply keep_alloc | refine keep_far ?_ GW210.out _ | refine keep_far ?_ GW214.out _) | exact HK.out)) hk (.inl rfl)); replace HB := am (hb); replace HI0 := am (hi); (try clear hb); (try clear hb2); (try clear hk); (try clear hi); obtain ⟨hcz58_0, hcz58_1, hcz58_2, hcz58_3, hcz58_4⟩ := cs5 BK214.out; obtain ⟨hfz58_0, hfz58_1, hfz58_2, hfz58_3, hfz58_4⟩ := fs5 BK214.out) | ((with_reducible refine gate_callee (f := 30) rfl ?_); refine goesLP_ (some 44) rfl rfl Try.func30 (by kernel_rfl) rfl #[.pointer (some ⟨g, 0, none⟩), .int .u64 2000, .int .i64 5] rfl lz ?_; (with_reducible refine (codec_decoder_limited.calls k g s0_0 t216 2000 5 t221 t222 t223 w0 _ ?side1 ?side2 A47.out).mono ?_); (case side1 => repeat (first | (with_reducible first | exact HI0.out | apply IsS51.alloc | apply IsS51.drewN | apply IsS51.drew | apply IsS51.set_1 | refine IsS51.far ?_ NB0_210.out _ | refine IsS51.far ?_ NB0_214.out _) | exact HI0.out)); (case side2 => repeat (first | (with_reducible first | exact HB.out | apply below_alloc | apply pw_below_drewN | apply below_drew1 | refine below_set ?_ (IsS51.ge HI0.out) | refine below_set ?_ GE210.out | refine below_set ?_ GE214.out) | exact HB.out)); rintro e w59 ⟨he_, hi, hb, hk⟩; (first | (refine zero_ he_ ?hz_ ?_; (case hz_ => (with_reducible assumption))) | (refine pan_ he_ ?hz_ ?_; (case hz_ => (with_reducible assumption)))); replace BK210 := am (KeepBut.blk hk (g' := gb210) (o := .cells #[.int .i64 0, .int .i64 0, .int .i64 0, .string (⟨#[]⟩ : ByteArray), .slice none 0 0] 24 (0, 0)) (bf1 NB210_214.out BK210.out) NB210_0.out (by simp)); replace BK214 := am (KeepBut.blk hk (g' := gb214) (o := .cells #[.int .i64 t211, .int .i64 (wrap64 (t215)), .int .i64 0, .string (⟨#[]⟩ : ByteArray), .slice none 0 0] 24 (0, 0)) (by (with_reducible repeat (first | refine blk_drewN ?_ _ | refine blk_drew ?_ | refine blk_alloc ?_ _)); refine blk_put (cs := #[.int .i64 t211, .int .i64 0, .int .i64 0, .string (⟨#[]⟩ : ByteArray), .slice none 0 0]) ?_ 1 _ rfl; (with_reducible repeat (first | refine blk_drewN ?_ _ | refine blk_drew ?_ | refine blk_alloc ?_ _)); exact BK214.out) NB214_0.out (by simp)); replace HK := am (KeepBut.trans (by repeat (first | (with_reducible first | exact HK.out | apply KeepBut.set_ | apply keep_drewN | apply keep_drew | apply keep_alloc | refine keep_far ?_ GW210.out _ | refine keep_far ?_ GW214.out _) | exact HK.out)) hk (.inl rfl)); replace HB := am (hb); replace HI0 := am (hi); (try clear hb); (try clear hb2); (try clear hk); (try clear hi)) | ((with_reducible refine gate_dst (N := 46) rfl ?_); refine make0_ (Kd.int .u8) _ 5 rfl (N := 46) rfl 25 _ _ rfl t221 rfl rfl Try.underlying25 (.int .u8 0) 1 info5 (ok := fun _ => True) (okp := fun _ => True) (fun _ hk => hk) trivial (of_decide_eq_true az) (Nat.le_trans (Nat.mul_le_mul_right _ (of_decide_eq_true az : t221.toNat ≤ 281474976710656)) (by omega)) (by omega) (Below.refl _ _) (Nat.le_refl _) ?_; intro v225 w60 ho61 hb hg_ hnew_; clear hg_ hnew_; (first | rw [← Ny224.out] at ho61 | (simp only [Int.reduceToNat] at ho61; rw [← Ny224.out] at ho61)); have HO226 := am (Kd.R_lower ho61 (keep_size (w := w) (g := g) (row := none) (by repeat (first | (with_reducible first | exact HK.out | apply KeepBut.set_ | apply keep_drewN | apply keep_drew | apply keep_alloc | refine keep_far ?_ GW210.out _ | refine keep_far ?_ GW214.out _) | exact HK.out)))); replace BK210 := am (blk_below (g := gb210) (o := .cells #[.int .i64 0, .int .i64 0, .int .i64 0, .string (⟨#[]⟩ : ByteArray), .slice none 0 0] 24 (0, 0)) (bz BK210.out) hb); replace BK214 := am (blk_below (g := gb214) (o := .cells #[.int .i64 t211, .int .i64 (wrap64 (t215)), .int .i64 0, .string (⟨#[]⟩ : ByteArray), .slice none 0 0] 24 (0, 0)) (bz BK214.out) hb); replace HK := am (KeepBut.trans (by repeat (first | (with_reducible first | exact HK.out | apply KeepBut.set_ | apply keep_drewN | apply keep_drew | apply keep_alloc | refine keep_far ?_ GW210.out _ | refine keep_far ?_ GW214.out _) | exact HK.out)) (KeepBut.of_below hb g none) (.inl rfl)); replace HB := am (below_step (by repeat (first | (with_reducible first | exact HB.out | apply below_alloc | apply pw_below_drewN | apply below_drew1 | refine below_set ?_ (IsS51.ge HI0.out) | refine below_set ?_ GE210.out | refine below_set ?_ GE214.out) | exact HB.out)) hb); replace HI0 := am (IsS51.below (by repeat (first | (with_reducible first | exact HI0.out | apply IsS51.alloc | apply IsS51.drewN | apply IsS51.drew | apply IsS51.set_1 | refine IsS51.far ?_ NB0_210.out _ | refine IsS51.far ?_ NB0_214.out _) | exact HI0.out)) hb); clear hb ho61))
       go_loopg [8, 48] k (fun kq v8 v48 w' => ∃ (x8_1 : List Int) (x48_1 : Int) (x1001_1 : Int), v48 = .int .i64 x48_1 ∧ Aside0 (codec_decoder_node.l0 kq x8_1 t221 x48_1 s0_0 x1001_1 t211 (wrap64 (t215)) 0 (⟨#[]⟩ : ByteArray) = some (r1, r2, r3, r4, r5, r6, r7)) ∧ Aside0 (kq ≤ k) ∧ Aside0 (Kd.R (Kd.int .u8) 5 w' w.heap.size (fun _ => True) v8 x8_1) ∧ Aside0 (w'.heap[gb210]? = some (.cells #[.int .i64 0, .int .i64 0, .int .i64 0, .string (⟨#[]⟩ : ByteArray), (.slice none 0 0)] 24 (0, 0))) ∧ Aside0 (w'.heap[gb214]? = some (.cells #[.int .i64 t211, .int .i64 (wrap64 (t215)), .int .i64 0, .string (⟨#[]⟩ : ByteArray), (.slice none 0 0)] 24 (0, 0))) ∧ Aside0 (IsS51 w0 w' g s0_0 x1001_1) ∧ Aside0 (KeepBut w w' g none) ∧ Aside0 (Below w0.heap.size w0 w'))
       case atStart => exact ⟨(y224), (0), (t222), (by first | rfl | (simp; done) | (simp [*]; done)), H', ⟨Nat.le_refl _⟩, ⟨by (with_reducible repeat (first | apply Kd.R_alloc | apply Kd.R_drewN | apply Kd.R_drew)); exact HO226.out⟩, ⟨by (with_reducible repeat (first | refine blk_drewN ?_ _ | refine blk_drew ?_ | refine blk_alloc ?_ _)); exact BK210.out⟩, ⟨by (with_reducible repeat (first | refine blk_drewN ?_ _ | refine blk_drew ?_ | refine blk_alloc ?_ _)); exact BK214.out⟩, ⟨by repeat (first | (with_reducible first | exact HI0.out | apply IsS51.alloc | apply IsS51.drewN | apply IsS51.drew | apply IsS51.set_1 | refine IsS51.far ?_ NB0_210.out _ | refine IsS51.far ?_ NB0_214.out _) | exact HI0.out)⟩, ⟨by repeat (first | (with_reducible first | exact HK.out | apply KeepBut.set_ | apply keep_drewN | apply keep_drew | apply keep_alloc | refine keep_far ?_ GW210.out _ | refine keep_far ?_ GW214.out _) | exact HK.out)⟩, ⟨by repeat (first | (with_reducible first | exact HB.out | apply below_alloc | apply pw_below_drewN | apply below_drew1 | refine below_set ?_ (IsS51.ge HI0.out) | refine below_set ?_ GE210.out | refine below_set ?_ GE214.out) | exact HB.out)⟩⟩
       case round =>
        clear H'
        try clear c1
        try clear c2
        try clear p2
        try clear c3
        try clear c3b0
        try clear c4
        try clear c5
        try clear c6
        try clear c6b0
        try clear c6b1
        try clear p6
        try clear c8
        try clear c8b0
        try clear c8b1
        try clear c9
        try clear c9b0
        try clear c9b1
        try clear c11
        try clear c11b0
        try clear c11b1
        try clear c12
        try clear c12b0
        try clear c12b1
        try clear c16
        try clear c17
        try clear c23
        try clear c24
        try clear c28
        try clear c29
        try clear c30
        try clear c31
        try clear c32
        try clear c35
        try clear c40
        try clear c41
        try clear c46
        try clear c46b0
        try clear c46b1
        try clear c48
        try clear c48b0
        try clear c48b1
        try clear c49
        try clear c49b0
        try clear c49b1
        try clear c50
        try clear c50b0
        try clear c50b1
        try clear c54
        try clear c55
        try clear hcz18_0
        try clear hcz18_1
        try clear hcz18_2
        try clear hcz18_3
        try clear hcz18_4
        try clear hcz20_0
        try clear hcz20_1
        try clear hcz20_2
        try clear hcz20_3
        try clear hcz20_4
        try clear hcz22_0
        try clear hcz22_1
        try clear hcz22_2
        try clear hcz22_3
        try clear hcz22_4
        try clear hcz24_0
        try clear hcz24_1
        try clear hcz24_2
        try clear hcz24_3
        try clear hcz24_4
        try clear hcz30_0
        try clear hcz30_1
        try clear hcz30_2
        try clear hcz30_3
        try clear hcz30_4
        try clear hcz32_0
        try clear hcz32_1
        try clear hcz32_2
        try clear hcz32_3
        try clear hcz32_4
        try clear hcz34_0
        try clear hcz34_1
        try clear hcz34_2
        try clear hcz34_3
        try clear hcz34_4
        try clear hcz36_0
        try clear hcz36_1
        try clear hcz36_2
        try clear hcz36_3
        try clear hcz36_4
        try clear hcz42_0
        try clear hcz42_1
        try clear hcz42_2
        try clear hcz42_3
        try clear hcz42_4
        try clear hcz44_0
        try clear hcz44_1
        try clear hcz44_2
        try clear hcz44_3
        try clear hcz44_4
        try clear hcz56_0
        try clear hcz56_1
        try clear hcz56_2
        try clear hcz56_3
        try clear hcz56_4
        try clear hcz58_0
        try clear hcz58_1
        try clear hcz58_2
        try clear hcz58_3
        try clear hcz58_4
        try clear hfz18_0
        try clear hfz18_1
        try clear hfz18_2
        try clear hfz18_3
        try clear hfz18_4
        try clear hfz20_0
        try clear hfz20_1
        try clear hfz20_2
        try clear hfz20_3
        try clear hfz20_4
        try clear hfz22_0
        try clear hfz22_1
        try clear hfz22_2
        try clear hfz22_3
        try clear hfz22_4
        try clear hfz24_0
        try clear hfz24_1
        try clear hfz24_2
        try clear hfz24_3
        try clear hfz24_4
        try clear hfz30_0
        try clear hfz30_1
        try clear hfz30_2
        try clear hfz30_3
        try clear hfz30_4
        try clear hfz32_0
        try clear hfz32_1
        try clear hfz32_2
        try clear hfz32_3
        try clear hfz32_4
        try clear hfz34_0
        try clear hfz34_1
        try clear hfz34_2
        try clear hfz34_3
        try clear hfz34_4
        try clear hfz36_0
        try clear hfz36_1
        try clear hfz36_2
        try clear hfz36_3
        try clear hfz36_4
        try clear hfz42_0
        try clear hfz42_1
        try clear hfz42_2
        try clear hfz42_3
        try clear hfz42_4
        try clear hfz44_0
        try clear hfz44_1
        try clear hfz44_2
        try clear hfz44_3
        try clear hfz44_4
        try clear hfz56_0
        try clear hfz56_1
        try clear hfz56_2
        try clear hfz56_3
        try clear hfz56_4
        try clear hfz58_0
        try clear hfz58_1
        try clear hfz58_2
        try clear hfz58_3
        try clear hfz58_4
        obtain ⟨x8_1, x48_1, x1001_1, rfl, HA, HK1, HO_8, BK210, BK214, HI0, HK, HB⟩ := hrel
        cases gk with
        | zero => exact absurd HA.out (by simp [codec_decoder_node.l0])
        | succ k1 =>
         have H := HA.out
         clear HA
         simp only [codec_decoder_node.l0] at H
         by_cases c62 : x48_1 < t221
         ·
          rw [if_pos c62] at H
          have c62b0 : decide (x48_1 < t221) = true := decide_eq_true c62
          clear c62
          replace H := Option.bind_eq_some_iff.mp H
          obtain ⟨⟨t227, t228, t229⟩, A630, H⟩ := H
          replace H : (if t229 = 0 then (if x8_1.length < 140737488355328 then (codec_decoder_node.l0 k1 (x8_1 ++ [t227]) t221 (wrap64 (x48_1 + 1)) s0_0 t228 t211 (wrap64 (t215)) 0 (⟨#[]⟩ : ByteArray)) else (none)) else (some (0, 0, 0, (⟨#[]⟩ : ByteArray), ([] : List (S24)), t228, t229))) = some (r1, r2, r3, r4, r5, r6, r7) := H
          have A63 := am A630
          clear A630
          by_cases c64 : t229 = 0
          ·
           rw [if_pos c64] at H
           have c64b0 : (t229 == 0) = true := beq_iff_eq.mpr c64
           have c64b1 : (t229 != 0) = false := bne_eq_false_iff_eq.mpr c64
           clear c64
           replace H := it_ H
           obtain ⟨c65, H⟩ := H
           have LMc65 := am c65
           clear c65
           obtain ⟨y230, hy230⟩ : ∃ y_ : List Int, y_ = (x8_1 ++ [t227]) := ⟨_, rfl⟩
           replace H : (codec_decoder_node.l0 k1 y230 t221 (wrap64 (x48_1 + 1)) s0_0 t228 t211 (wrap64 (t215)) 0 (⟨#[]⟩ : ByteArray)) = some (r1, r2, r3, r4, r5, r6, r7) := by first | (rw [hy230]; with_reducible exact H) | (have H2_ := (Option.bind_some _ _).symm.trans H; rw [hy230]; with_reducible exact H2_) | (have H2_ := (Option.bind_some _ _).symm.trans H; with_reducible exact H2_) | with_reducible exact H | (rw [hy230]; exact H) | exact H
           have Ny230 := am hy230
           clear hy230
           have H' := am H
           clear H
           go_wp2_with (first | ((with_reducible refine gate_callee (f := 31) rfl ?_); refine goesLP_ (some 52) rfl rfl Try.func31 (by kernel_rfl) rfl #[.pointer (some ⟨g, 0, none⟩)] rfl lz ?_; (with_reducible refine (codec_decoder_next.calls g s0_0 x1001_1 t227 t228 t229 w0 _ ?side1 ?side2 A63.out).mono ?_); (case side1 => repeat (first | (with_reducible first | exact HI0.out | apply IsS51.alloc | apply IsS51.drewN | apply IsS51.drew | apply IsS51.set_1 | refine IsS51.far ?_ NB0_210.out _ | refine IsS51.far ?_ NB0_214.out _) | exact HI0.out)); (case side2 => repeat (first | (with_reducible first | exact HB.out | apply below_alloc | apply pw_below_drewN | apply below_drew1 | refine below_set ?_ (IsS51.ge HI0.out) | refine below_set ?_ GE210.out | refine below_set ?_ GE214.out) | exact HB.out)); rintro e w66 ⟨he_, hi, hb, hk⟩; (first | (refine zero_ he_ ?hz_ ?_; (case hz_ => (with_reducible assumption))) | (refine pan_ he_ ?hz_ ?_; (case hz_ => (with_reducible assumption)))); replace HO_8 := am (Kd.R_mono (Kd.R_keep (IsS51.apart (show IsS51 w0 _ g s0_0 x1001_1 from by repeat (first | (with_reducible first | exact HI0.out | apply IsS51.alloc | apply IsS51.drewN | apply IsS51.drew | apply IsS51.set_1 | refine IsS51.far ?_ NB0_210.out _ | refine IsS51.far ?_ NB0_214.out _) | exact HI0.out)) (rz HO_8.out) (by decide)) hk (fun _ h => h.2)) (fun _ h => h.1)); replace BK210 := am (KeepBut.blk hk (g' := gb210) (o := .cells #[.int .i64 0, .int .i64 0, .int .i64 0, .string (⟨#[]⟩ : ByteArray), .slice none 0 0] 24 (0, 0)) (bz BK210.out) NB210_0.out (by simp)); replace BK214 := am (KeepBut.blk hk (g' := gb214) (o := .cells #[.int .i64 t211, .int .i64 (wrap64 (t215)), .int .i64 0, .string (⟨#[]⟩ : ByteArray), .slice none 0 0] 24 (0, 0)) (bz BK214.out) NB214_0.out (by simp)); replace HK := am (KeepBut.trans (by repeat (first | (with_reducible first | exact HK.out | apply KeepBut.set_ | apply keep_drewN | apply keep_drew | apply keep_alloc | refine keep_far ?_ GW210.out _ | refine keep_far ?_ GW214.out _) | exact HK.out)) hk (.inl rfl)); replace HB := am (hb); replace HI0 := am (hi); (try clear hb); (try clear hb2); (try clear hk); (try clear hi)) | ((with_reducible refine gate_builtin (b := .append) (xs := #[.tmp 50, .tmp 53]) rfl ?_); at_builtin; refine Kd.R_append (Kd.int .u8) w.heap.size rfl (.tmp 50) (.tmp 53) 25 5 (.int .u8 0) 1 rfl Try.underlying25 info5 rfl (by decide) (by omega) u8 x8_1 t227 [.int .u8 t227] (fun _ => True) (fun _ => False) rfl rfl ?aP (fun _ hk => hk.elim) ?aF ?aO (Below.refl _ _) ?aS ?aL ?_; (case aP => exact rfl); (case aF => exact (fun _ _ => trivial)); (case aO => exact (rz HO_8.out)); (case aS => exact (keep_size (w := w) (g := g) (row := none) (by repeat (first | (with_reducible first | exact HK.out | apply KeepBut.set_ | apply keep_drewN | apply keep_drew | apply keep_alloc | refine keep_far ?_ GW210.out _ | refine keep_far ?_ GW214.out _) | exact HK.out)))); (case aL => have := LMc65.out; omega); intro v231 w67 ho hb hg hat; rw [← Ny230.out] at ho; replace BK210 := am (blk_grown (g := gb210) (o := .cells #[.int .i64 0, .int .i64 0, .int .i64 0, .string (⟨#[]⟩ : ByteArray), .slice none 0 0] 24 (0, 0)) (bz BK210.out) hg (Kd.R_ne HO_8.out BK210.out (by decide))); replace BK214 := am (blk_grown (g := gb214) (o := .cells #[.int .i64 t211, .int .i64 (wrap64 (t215)), .int .i64 0, .string (⟨#[]⟩ : ByteArray), .slice none 0 0] 24 (0, 0)) (bz BK214.out) hg (Kd.R_ne HO_8.out BK214.out (by decide))); replace HB := am (below_weaken (by repeat (first | (with_reducible first | exact HB.out | apply below_alloc | apply pw_below_drewN | apply below_drew1 | refine below_set ?_ (IsS51.ge HI0.out) | refine below_set ?_ GE210.out | refine below_set ?_ GE214.out) | exact HB.out)) HL.out hb); replace HI0 := am (IsS51.grown (by repeat (first | (with_reducible first | exact HI0.out | apply IsS51.alloc | apply IsS51.drewN | apply IsS51.drew | apply IsS51.set_1 | refine IsS51.far ?_ NB0_210.out _ | refine IsS51.far ?_ NB0_214.out _) | exact HI0.out)) hg (IsS51.own_ne HI0.out HO_8.out (by decide))); replace HK := am (KeepBut.trans (by repeat (first | (with_reducible first | exact HK.out | apply KeepBut.set_ | apply keep_drewN | apply keep_drew | apply keep_alloc | refine keep_far ?_ GW210.out _ | refine keep_far ?_ GW214.out _) | exact HK.out)) (KeepBut.of_grown hg g) (Kd.R_base2 HO_8.out)); have HO232 := am (ho); clear HO_8; clear ho hb hg hat))
           go_roundg k1
           case measure => have := HK1.out; omega
           case rel => exact ⟨(y230), (wrap64 (x48_1 + 1)), (t228), (by first | rfl | (simp; done) | (simp [*]; done)), H', ⟨by have := HK1.out; omega⟩, ⟨by (with_reducible repeat (first | apply Kd.R_alloc | apply Kd.R_drewN | apply Kd.R_drew)); exact HO232.out⟩, ⟨by (with_reducible repeat (first | refine blk_drewN ?_ _ | refine blk_drew ?_ | refine blk_alloc ?_ _)); exact BK210.out⟩, ⟨by (with_reducible repeat (first | refine blk_drewN ?_ _ | refine blk_drew ?_ | refine blk_alloc ?_ _)); exact BK214.out⟩, ⟨by repeat (first | (with_reducible first | exact HI0.out | apply IsS51.alloc | apply IsS51.drewN | apply IsS51.drew | apply IsS51.set_1 | refine IsS51.far ?_ NB0_210.out _ | refine IsS51.far ?_ NB0_214.out _) | exact HI0.out)⟩, ⟨by repeat (first | (with_reducible first | exact HK.out | apply KeepBut.set_ | apply keep_drewN | apply keep_drew | apply keep_alloc | refine keep_far ?_ GW210.out _ | refine keep_far ?_ GW214.out _) | exact HK.out)⟩, ⟨by repeat (first | (with_reducible first | exact HB.out | apply below_alloc | apply pw_below_drewN | apply below_drew1 | refine below_set ?_ (IsS51.ge HI0.out) | refine below_set ?_ GE210.out | refine below_set ?_ GE214.out) | exact HB.out)⟩⟩
          ·
           rw [if_neg c64] at H
           have c64b0 : (t229 == 0) = false := beq_eq_false_iff_ne.mpr c64
           have c64b1 : (t229 != 0) = true := bne_iff_ne.mpr c64
           simp only [Option.some.injEq, Prod.mk.injEq] at H
           obtain ⟨rfl, rfl, rfl, rfl, rfl, rfl, rfl⟩ := H
           go_wp2_with (first | ((with_reducible refine gate_callee (f := 31) rfl ?_); refine goesLP_ (some 52) rfl rfl Try.func31 (by kernel_rfl) rfl #[.pointer (some ⟨g, 0, none⟩)] rfl lz ?_; (with_reducible refine (codec_decoder_next.calls g s0_0 x1001_1 t227 t228 t229 w0 _ ?side1 ?side2 A63.out).mono ?_); (case side1 => repeat (first | (with_reducible first | exact HI0.out | apply IsS51.alloc | apply IsS51.drewN | apply IsS51.drew | apply IsS51.set_1 | refine IsS51.far ?_ NB0_210.out _ | refine IsS51.far ?_ NB0_214.out _) | exact HI0.out)); (case side2 => repeat (first | (with_reducible first | exact HB.out | apply below_alloc | apply pw_below_drewN | apply below_drew1 | refine below_set ?_ (IsS51.ge HI0.out) | refine below_set ?_ GE210.out | refine below_set ?_ GE214.out) | exact HB.out)); rintro e w68 ⟨he_, hi, hb, hk⟩; (first | (refine zero_ he_ ?hz_ ?_; (case hz_ => (with_reducible assumption))) | (refine pan_ he_ ?hz_ ?_; (case hz_ => (with_reducible assumption)))); replace HO_8 := am (Kd.R_mono (Kd.R_keep (IsS51.apart (show IsS51 w0 _ g s0_0 x1001_1 from by repeat (first | (with_reducible first | exact HI0.out | apply IsS51.alloc | apply IsS51.drewN | apply IsS51.drew | apply IsS51.set_1 | refine IsS51.far ?_ NB0_210.out _ | refine IsS51.far ?_ NB0_214.out _) | exact HI0.out)) (rz HO_8.out) (by decide)) hk (fun _ h => h.2)) (fun _ h => h.1)); replace BK210 := am (KeepBut.blk hk (g' := gb210) (o := .cells #[.int .i64 0, .int .i64 0, .int .i64 0, .string (⟨#[]⟩ : ByteArray), .slice none 0 0] 24 (0, 0)) (bz BK210.out) NB210_0.out (by simp)); replace BK214 := am (KeepBut.blk hk (g' := gb214) (o := .cells #[.int .i64 t211, .int .i64 (wrap64 (t215)), .int .i64 0, .string (⟨#[]⟩ : ByteArray), .slice none 0 0] 24 (0, 0)) (bz BK214.out) NB214_0.out (by simp)); replace HK := am (KeepBut.trans (by repeat (first | (with_reducible first | exact HK.out | apply KeepBut.set_ | apply keep_drewN | apply keep_drew | apply keep_alloc | refine keep_far ?_ GW210.out _ | refine keep_far ?_ GW214.out _) | exact HK.out)) hk (.inl rfl)); replace HB := am (hb); replace HI0 := am (hi); (try clear hb); (try clear hb2); (try clear hk); (try clear hi)))
           refine ⟨rfl, ?_⟩
           exact ⟨_, by first | rfl | (refine pan_eq ?_; assumption) | (simp [errW_none, errW_some] <;> rfl) | (simp [*, errW_none, errW_some] <;> rfl), by first | exact Kd.R_nil _ _ _ _ _ | exact Kd.N_nil _ _ _ _ _ | exact Kd.V_nil _ _ _ _ _ | exact Kd.Q_nil _ _ _ _ _ | exact Kd.S_nil _ _ _ _ _, by repeat (first | (with_reducible first | exact HI0.out | apply IsS51.alloc | apply IsS51.drewN | apply IsS51.drew | apply IsS51.set_1 | refine IsS51.far ?_ NB0_210.out _ | refine IsS51.far ?_ NB0_214.out _) | exact HI0.out), by repeat (first | (with_reducible first | exact HB.out | apply below_alloc | apply pw_below_drewN | apply below_drew1 | refine below_set ?_ (IsS51.ge HI0.out) | refine below_set ?_ GE210.out | refine below_set ?_ GE214.out) | exact HB.out), by repeat (first | (with_reducible first | exact HK.out | apply KeepBut.set_ | apply keep_drewN | apply keep_drew | apply keep_alloc | refine keep_far ?_ GW210.out _ | refine keep_far ?_ GW214.out _) | exact HK.out)⟩
         ·
          rw [if_neg c62] at H
          have c62b0 : decide (x48_1 < t221) = false := decide_eq_false c62
          clear c62
          simp only [Option.some.injEq, Prod.mk.injEq] at H
          obtain ⟨rfl, rfl, rfl, rfl, rfl, rfl, rfl⟩ := H
          have hcv69 := own_string (P := Try.prog) Try.underlying25 Try.underlying5 Try.underlying9 (Kd.own_of_R HO_8.out)
          have hnb70 := NB214_210.out
          have hnc70 := NB210_214.out
          have hnb71 := NB214_0.out
          have hnc71 := NB0_214.out
          have hcz72_0 : wr.cell? ⟨gb214, 0, none⟩ = some (.int .i64 t211) := (blk_cell BK214.out 0).trans rfl
          have hcz72_1 : wr.cell? ⟨gb214, 1, none⟩ = some (.int .i64 (wrap64 (t215))) := (blk_cell BK214.out 1).trans rfl
          have hcz72_2 : wr.cell? ⟨gb214, 2, none⟩ = some (.int .i64 0) := (blk_cell BK214.out 2).trans rfl
          have hcz72_3 : wr.cell? ⟨gb214, 3, none⟩ = some (.string (⟨#[]⟩ : ByteArray)) := (blk_cell BK214.out 3).trans rfl
          have hcz72_4 : wr.cell? ⟨gb214, 4, none⟩ = some (.slice none 0 0) := (blk_cell BK214.out 4).trans rfl
          have hfz72_0 := blk_frozen BK214.out 0
          have hfz72_1 := blk_frozen BK214.out 1
          have hfz72_2 := blk_frozen BK214.out 2
          have hfz72_3 := blk_frozen BK214.out 3
          have hfz72_4 := blk_frozen BK214.out 4
          have hnb73 := NB210_0.out
          have hnc73 := NB0_210.out
          have hcz74_0 : wr.cell? ⟨gb210, 0, none⟩ = some (.int .i64 0) := (blk_cell BK210.out 0).trans rfl
          have hcz74_1 : wr.cell? ⟨gb210, 1, none⟩ = some (.int .i64 0) := (blk_cell BK210.out 1).trans rfl
          have hcz74_2 : wr.cell? ⟨gb210, 2, none⟩ = some (.int .i64 0) := (blk_cell BK210.out 2).trans rfl
          have hcz74_3 : wr.cell? ⟨gb210, 3, none⟩ = some (.string (⟨#[]⟩ : ByteArray)) := (blk_cell BK210.out 3).trans rfl
          have hcz74_4 : wr.cell? ⟨gb210, 4, none⟩ = some (.slice none 0 0) := (blk_cell BK210.out 4).trans rfl
          have hfz74_0 := blk_frozen BK210.out 0
          have hfz74_1 := blk_frozen BK210.out 1
          have hfz74_2 := blk_frozen BK210.out 2
          have hfz74_3 := blk_frozen BK210.out 3
          have hfz74_4 := blk_frozen BK210.out 4
          go_wp2
          refine bodyPost_ret (results_cell_row rfl _ _ gb210 24 #[.int .i64 t211, .int .i64 (wrap64 (t215)), .int .i64 0, .string (strOfNums x8_1), .slice none 0 0] (0, 0) _ rfl (by (with_reducible repeat (first | refine blk_drewN ?_ _ | refine blk_drew ?_ | refine blk_alloc ?_ _)); refine blk_put (cs := #[.int .i64 t211, .int .i64 (wrap64 (t215)), .int .i64 0, .string (strOfNums x8_1), .slice none 0 0]) ?_ 4 _ rfl; (with_reducible repeat (first | refine blk_drewN ?_ _ | refine blk_drew ?_ | refine blk_alloc ?_ _)); refine blk_put (cs := #[.int .i64 t211, .int .i64 (wrap64 (t215)), .int .i64 0, .string (⟨#[]⟩ : ByteArray), .slice none 0 0]) ?_ 3 _ rfl; (with_reducible repeat (first | refine blk_drewN ?_ _ | refine blk_drew ?_ | refine blk_alloc ?_ _)); refine blk_put (cs := #[.int .i64 t211, .int .i64 (wrap64 (t215)), .int .i64 0, .string (⟨#[]⟩ : ByteArray), .slice none 0 0]) ?_ 2 _ rfl; (with_reducible repeat (first | refine blk_drewN ?_ _ | refine blk_drew ?_ | refine blk_alloc ?_ _)); refine blk_put (cs := #[.int .i64 t211, .int .i64 0, .int .i64 0, .string (⟨#[]⟩ : ByteArray), .slice none 0 0]) ?_ 1 _ rfl; (with_reducible repeat (first | refine blk_drewN ?_ _ | refine blk_drew ?_ | refine blk_alloc ?_ _)); refine blk_put (cs := #[.int .i64 0, .int .i64 0, .int .i64 0, .string (⟨#[]⟩ : ByteArray), .slice none 0 0]) ?_ 0 _ rfl; (with_reducible repeat (first | refine blk_drewN ?_ _ | refine blk_drew ?_ | refine blk_alloc ?_ _)); refine blk_far ?_ NB210_214.out _; (with_reducible repeat (first | refine blk_drewN ?_ _ | refine blk_drew ?_ | refine blk_alloc ?_ _)); exact BK210.out) Try.underlying24 rfl (by kernel_rfl)) rfl ?_
          exact ⟨_, by first | rfl | (refine pan_eq ?_; assumption) | (simp [errW_none, errW_some] <;> rfl) | (simp [*, errW_none, errW_some] <;> rfl), by first | exact Kd.R_nil _ _ _ _ _ | exact Kd.N_nil _ _ _ _ _ | exact Kd.V_nil _ _ _ _ _ | exact Kd.Q_nil _ _ _ _ _ | exact Kd.S_nil _ _ _ _ _, by repeat (first | (with_reducible first | exact HI0.out | apply IsS51.alloc | apply IsS51.drewN | apply IsS51.drew | apply IsS51.set_1 | refine IsS51.far ?_ NB0_210.out _ | refine IsS51.far ?_ NB0_214.out _) | exact HI0.out), by repeat (first | (with_reducible first | exact HB.out | apply below_alloc | apply pw_below_drewN | apply below_drew1 | refine below_set ?_ (IsS51.ge HI0.out) | refine below_set ?_ GE210.out | refine below_set ?_ GE214.out) | exact HB.out), by repeat (first | (with_reducible first | exact HK.out | apply KeepBut.set_ | apply keep_drewN | apply keep_drew | apply keep_alloc | refine keep_far ?_ GW210.out _ | refine keep_far ?_ GW214.out _) | exact HK.out)⟩
      ·
       rw [if_neg c48] at H
       have c48b0 : (t223 == 0) = false := beq_eq_false_iff_ne.mpr c48
       have c48b1 : (t223 != 0) = true := bne_iff_ne.mpr c48
       simp only [Option.some.injEq, Prod.mk.injEq] at H
       obtain ⟨rfl, rfl, rfl, rfl, rfl, rfl, rfl⟩ := H
       go_enter Try.func24, Try.ntmps24
       go_wp2_with (first | ((with_reducible refine gate_dst (N := 4) rfl ?_); refine box_event ?hg (N := 4) ?hd (cs := #[.int .i64 0, .int .i64 0, .int .i64 0, .string (⟨#[]⟩ : ByteArray), .slice none 0 0]) (t := 24) ?hr ?_; (case hd => rfl); (case hg => rfl); (case hr => exact gz); intro gb210 hg w75 hbox hb; replace HB := am (below_step (by repeat (first | (with_reducible first | exact HB.out | apply below_alloc | apply pw_below_drewN | apply below_drew1 | refine below_set ?_ (IsS51.ge HI0.out)) | exact HB.out)) hb); have BK210 := am (hbox); have GW210 := am ((by rw [hg]; exact (keep_size (w := w) (g := g) (row := none) (by repeat (first | (with_reducible first | exact HK.out | apply KeepBut.set_ | apply keep_drewN | apply keep_drew | apply keep_alloc) | exact HK.out))) : w.heap.size ≤ gb210)); have GE210 := am ((Nat.le_trans HW0.out (by rw [hg]; exact (keep_size (w := w) (g := g) (row := none) (by repeat (first | (with_reducible first | exact HK.out | apply KeepBut.set_ | apply keep_drewN | apply keep_drew | apply keep_alloc) | exact HK.out))) : w.heap.size ≤ gb210) : w0.heap.size ≤ gb210)); replace HK := am (KeepBut.trans (by repeat (first | (with_reducible first | exact HK.out | apply KeepBut.set_ | apply keep_drewN | apply keep_drew | apply keep_alloc) | exact HK.out)) (KeepBut.of_below hb g none) (.inl rfl)); have NB0_210 := am ((by rw [hg]; exact Nat.ne_of_lt (IsS51.lt (show IsS51 w0 _ g s0_0 s0_1 from by repeat (first | (with_reducible first | exact HI0.out | apply IsS51.alloc | apply IsS51.drewN | apply IsS51.drew | apply IsS51.set_1) | exact HI0.out))) : g ≠ gb210)); have NB210_0 := am ((by rw [hg]; exact Nat.ne_of_gt (IsS51.lt (show IsS51 w0 _ g s0_0 s0_1 from by repeat (first | (with_reducible first | exact HI0.out | apply IsS51.alloc | apply IsS51.drewN | apply IsS51.drew | apply IsS51.set_1) | exact HI0.out))) : gb210 ≠ g)); replace HI0 := am (IsS51.below (by repeat (first | (with_reducible first | exact HI0.out | apply IsS51.alloc | apply IsS51.drewN | apply IsS51.drew | apply IsS51.set_1) | exact HI0.out)) hb); clear hb hbox hg) | ((with_reducible refine gate_callee (f := 30) rfl ?_); refine goesLP_ (some 15) rfl rfl Try.func30 (by kernel_rfl) rfl #[.pointer (some ⟨g, 0, none⟩), .int .u64 9999999, .int .i64 3] rfl lz ?_; (with_reducible refine (codec_decoder_limited.calls k g s0_0 s0_1 9999999 3 t211 t212 t213 w0 _ ?side1 ?side2 A5.out).mono ?_); (case side1 => repeat (first | (with_reducible first | exact HI0.out | apply IsS51.alloc | apply IsS51.drewN | apply IsS51.drew | apply IsS51.set_1 | refine IsS51.far ?_ NB0_210.out _) | exact HI0.out)); (case side2 => repeat (first | (with_reducible first | exact HB.out | apply below_alloc | apply pw_below_drewN | apply below_drew1 | refine below_set ?_ (IsS51.ge HI0.out) | refine below_set ?_ GE210.out) | exact HB.out)); rintro e w76 ⟨he_, hi, hb, hk⟩; (first | (refine zero_ he_ ?hz_ ?_; (case hz_ => (with_reducible assumption))) | (refine pan_ he_ ?hz_ ?_; (case hz_ => (with_reducible assumption)))); replace BK210 := am (KeepBut.blk hk (g' := gb210) (o := .cells #[.int .i64 0, .int .i64 0, .int .i64 0, .string (⟨#[]⟩ : ByteArray), .slice none 0 0] 24 (0, 0)) (bz BK210.out) NB210_0.out (by simp)); replace HK := am (KeepBut.trans (by repeat (first | (with_reducible first | exact HK.out | apply KeepBut.set_ | apply keep_drewN | apply keep_drew | apply keep_alloc | refine keep_far ?_ GW210.out _) | exact HK.out)) hk (.inl rfl)); replace HB := am (hb); replace HI0 := am (hi); (try clear hb); (try clear hb2); (try clear hk); (try clear hi)) | ((with_reducible refine gate_dst (N := 5) rfl ?_); refine box_event ?hg (N := 5) ?hd (cs := #[.int .i64 0, .int .i64 0, .int .i64 0, .string (⟨#[]⟩ : ByteArray), .slice none 0 0]) (t := 24) ?hr ?_; (case hd => rfl); (case hg => rfl); (case hr => exact gz); intro gb214 hg w77 hbox hb; replace HB := am (below_step (by repeat (first | (with_reducible first | exact HB.out | apply below_alloc | apply pw_below_drewN | apply below_drew1 | refine below_set ?_ (IsS51.ge HI0.out) | refine below_set ?_ GE210.out) | exact HB.out)) hb); have BK214 := am (hbox); have GW214 := am ((by rw [hg]; exact (keep_size (w := w) (g := g) (row := none) (by repeat (first | (with_reducible first | exact HK.out | apply KeepBut.set_ | apply keep_drewN | apply keep_drew | apply keep_alloc | refine keep_far ?_ GW210.out _) | exact HK.out))) : w.heap.size ≤ gb214)); have GE214 := am ((Nat.le_trans HW0.out (by rw [hg]; exact (keep_size (w := w) (g := g) (row := none) (by repeat (first | (with_reducible first | exact HK.out | apply KeepBut.set_ | apply keep_drewN | apply keep_drew | apply keep_alloc | refine keep_far ?_ GW210.out _) | exact HK.out))) : w.heap.size ≤ gb214) : w0.heap.size ≤ gb214)); replace HK := am (KeepBut.trans (by repeat (first | (with_reducible first | exact HK.out | apply KeepBut.set_ | apply keep_drewN | apply keep_drew | apply keep_alloc | refine keep_far ?_ GW210.out _) | exact HK.out)) (KeepBut.of_below hb g none) (.inl rfl)); have NB210_214 := am ((by rw [hg]; exact Nat.ne_of_lt (blk_lt (g := gb210) (o := .cells #[.int .i64 0, .int .i64 0, .int .i64 0, .string (⟨#[]⟩ : ByteArray), .slice none 0 0] 24 (0, 0)) (bz BK210.out)) : gb210 ≠ gb214)); have NB214_210 := am ((by rw [hg]; exact Nat.ne_of_gt (blk_lt (g := gb210) (o := .cells #[.int .i64 0, .int .i64 0, .int .i64 0, .string (⟨#[]⟩ : ByteArray), .slice none 0 0] 24 (0, 0)) (bz BK210.out)) : gb214 ≠ gb210)); replace BK210 := am (blk_below (g := gb210) (o := .cells #[.int .i64 0, .int .i64 0, .int .i64 0, .string (⟨#[]⟩ : ByteArray), .slice none 0 0] 24 (0, 0)) (bz BK210.out) hb); have NB0_214 := am ((by rw [hg]; exact Nat.ne_of_lt (IsS51.lt (show IsS51 w0 _ g s0_0 t212 from by repeat (first | (with_reducible first | exact HI0.out | apply IsS51.alloc | apply IsS51.drewN | apply IsS51.drew | apply IsS51.set_1 | refine IsS51.far ?_ NB0_210.out _) | exact HI0.out))) : g ≠ gb214)); have NB214_0 := am ((by rw [hg]; exact Nat.ne_of_gt (IsS51.lt (show IsS51 w0 _ g s0_0 t212 from by repeat (first | (with_reducible first | exact HI0.out | apply IsS51.alloc | apply IsS51.drewN | apply IsS51.drew | apply IsS51.set_1 | refine IsS51.far ?_ NB0_210.out _) | exact HI0.out))) : gb214 ≠ g)); replace HI0 := am (IsS51.below (by repeat (first | (with_reducible first | exact HI0.out | apply IsS51.alloc | apply IsS51.drewN | apply IsS51.drew | apply IsS51.set_1 | refine IsS51.far ?_ NB0_210.out _) | exact HI0.out)) hb); clear hb hbox hg; have hnb78 := NB214_210.out; have hnc78 := NB210_214.out; have hnb79 := NB214_0.out; have hnc79 := NB0_214.out; obtain ⟨hcz80_0, hcz80_1, hcz80_2, hcz80_3, hcz80_4⟩ := cs5 BK214.out; obtain ⟨hfz80_0, hfz80_1, hfz80_2, hfz80_3, hfz80_4⟩ := fs5 BK214.out) | ((with_reducible refine gate_callee (f := 31) rfl ?_); refine goesLP_ (some 18) rfl rfl Try.func31 (by kernel_rfl) rfl #[.pointer (some ⟨g, 0, none⟩)] rfl lz ?_; (with_reducible refine (codec_decoder_next.calls g s0_0 t212 t215 t216 t217 w0 _ ?side1 ?side2 A7.out).mono ?_); (case side1 => repeat (first | (with_reducible first | exact HI0.out | apply IsS51.alloc | apply IsS51.drewN | apply IsS51.drew | apply IsS51.set_1 | refine IsS51.far ?_ NB0_210.out _ | refine IsS51.far ?_ NB0_214.out _) | exact HI0.out)); (case side2 => repeat (first | (with_reducible first | exact HB.out | apply below_alloc | apply pw_below_drewN | apply below_drew1 | refine below_set ?_ (IsS51.ge HI0.out) | refine below_set ?_ GE210.out | refine below_set ?_ GE214.out) | exact HB.out)); rintro e w81 ⟨he_, hi, hb, hk⟩; (first | (refine zero_ he_ ?hz_ ?_; (case hz_ => (with_reducible assumption))) | (refine pan_ he_ ?hz_ ?_; (case hz_ => (with_reducible assumption)))); replace BK210 := am (KeepBut.blk hk (g' := gb210) (o := .cells #[.int .i64 0, .int .i64 0, .int .i64 0, .string (⟨#[]⟩ : ByteArray), .slice none 0 0] 24 (0, 0)) (bf1 NB210_214.out BK210.out) NB210_0.out (by simp)); replace BK214 := am (KeepBut.blk hk (g' := gb214) (o := .cells #[.int .i64 t211, .int .i64 0, .int .i64 0, .string (⟨#[]⟩ : ByteArray), .slice none 0 0] 24 (0, 0)) (by (with_reducible repeat (first | refine blk_drewN ?_ _ | refine blk_drew ?_ | refine blk_alloc ?_ _)); refine blk_put (cs := #[.int .i64 t211, .int .i64 0, .int .i64 0, .string (⟨#[]⟩ : ByteArray), .slice none 0 0]) ?_ 4 _ rfl; (with_reducible repeat (first | refine blk_drewN ?_ _ | refine blk_drew ?_ | refine blk_alloc ?_ _)); refine blk_put (cs := #[.int .i64 t211, .int .i64 0, .int .i64 0, .string (⟨#[]⟩ : ByteArray), .slice none 0 0]) ?_ 3 _ rfl; (with_reducible repeat (first | refine blk_drewN ?_ _ | refine blk_drew ?_ | refine blk_alloc ?_ _)); refine blk_put (cs := #[.int .i64 t211, .int .i64 0, .int .i64 0, .string (⟨#[]⟩ : ByteArray), .slice none 0 0]) ?_ 2 _ rfl; (with_reducible repeat (first | refine blk_drewN ?_ _ | refine blk_drew ?_ | refine blk_alloc ?_ _)); refine blk_put (cs := #[.int .i64 t211, .int .i64 0, .int .i64 0, .string (⟨#[]⟩ : ByteArray), .slice none 0 0]) ?_ 1 _ rfl; (with_reducible repeat (first | refine blk_drewN ?_ _ | refine blk_drew ?_ | refine blk_alloc ?_ _)); refine blk_put (cs := #[.int .i64 0, .int .i64 0, .int .i64 0, .string (⟨#[]⟩ : ByteArray), .slice none 0 0]) ?_ 0 _ rfl; (with_reducible repeat (first | refine blk_drewN ?_ _ | refine blk_drew ?_ | refine blk_alloc ?_ _)); exact BK214.out) NB214_0.out (by simp)); replace HK := am (KeepBut.trans (by repeat (first | (with_reducible first | exact HK.out | apply KeepBut.set_ | apply keep_drewN | apply keep_drew | apply keep_alloc | refine keep_far ?_ GW210.out _ | refine keep_far ?_ GW214.out _) | exact HK.out)) hk (.inl rfl)); replace HB := am (hb); replace HI0 := am (hi); (try clear hb); (try clear hb2); (try clear hk); (try clear hi); obtain ⟨hcz82_0, hcz82_1, hcz82_2, hcz82_3, hcz82_4⟩ := cs5 BK214.out; obtain ⟨hfz82_0, hfz82_1, hfz82_2, hfz82_3, hfz82_4⟩ := fs5 BK214.out) | ((with_reducible refine gate_callee (f := 30) rfl ?_); refine goesLP_ (some 44) rfl rfl Try.func30 (by kernel_rfl) rfl #[.pointer (some ⟨g, 0, none⟩), .int .u64 2000, .int .i64 5] rfl lz ?_; (with_reducible refine (codec_decoder_limited.calls k g s0_0 t216 2000 5 t221 t222 t223 w0 _ ?side1 ?side2 A47.out).mono ?_); (case side1 => repeat (first | (with_reducible first | exact HI0.out | apply IsS51.alloc | apply IsS51.drewN | apply IsS51.drew | apply IsS51.set_1 | refine IsS51.far ?_ NB0_210.out _ | refine IsS51.far ?_ NB0_214.out _) | exact HI0.out)); (case side2 => repeat (first | (with_reducible first | exact HB.out | apply below_alloc | apply pw_below_drewN | apply below_drew1 | refine below_set ?_ (IsS51.ge HI0.out) | refine below_set ?_ GE210.out | refine below_set ?_ GE214.out) | exact HB.out)); rintro e w83 ⟨he_, hi, hb, hk⟩; (first | (refine zero_ he_ ?hz_ ?_; (case hz_ => (with_reducible assumption))) | (refine pan_ he_ ?hz_ ?_; (case hz_ => (with_reducible assumption)))); replace BK210 := am (KeepBut.blk hk (g' := gb210) (o := .cells #[.int .i64 0, .int .i64 0, .int .i64 0, .string (⟨#[]⟩ : ByteArray), .slice none 0 0] 24 (0, 0)) (bf1 NB210_214.out BK210.out) NB210_0.out (by simp)); replace BK214 := am (KeepBut.blk hk (g' := gb214) (o := .cells #[.int .i64 t211, .int .i64 (wrap64 (t215)), .int .i64 0, .string (⟨#[]⟩ : ByteArray), .slice none 0 0] 24 (0, 0)) (by (with_reducible repeat (first | refine blk_drewN ?_ _ | refine blk_drew ?_ | refine blk_alloc ?_ _)); refine blk_put (cs := #[.int .i64 t211, .int .i64 0, .int .i64 0, .string (⟨#[]⟩ : ByteArray), .slice none 0 0]) ?_ 1 _ rfl; (with_reducible repeat (first | refine blk_drewN ?_ _ | refine blk_drew ?_ | refine blk_alloc ?_ _)); exact BK214.out) NB214_0.out (by simp)); replace HK := am (KeepBut.trans (by repeat (first | (with_reducible first | exact HK.out | apply KeepBut.set_ | apply keep_drewN | apply keep_drew | apply keep_alloc | refine keep_far ?_ GW210.out _ | refine keep_far ?_ GW214.out _) | exact HK.out)) hk (.inl rfl)); replace HB := am (hb); replace HI0 := am (hi); (try clear hb); (try clear hb2); (try clear hk); (try clear hi)))
       refine ⟨rfl, ?_⟩
       exact ⟨_, by first | rfl | (refine pan_eq ?_; assumption) | (simp [errW_none, errW_some] <;> rfl) | (simp [*, errW_none, errW_some] <;> rfl), by first | exact Kd.R_nil _ _ _ _ _ | exact Kd.N_nil _ _ _ _ _ | exact Kd.V_nil _ _ _ _ _ | exact Kd.Q_nil _ _ _ _ _ | exact Kd.S_nil _ _ _ _ _, by repeat (first | (with_reducible first | exact HI0.out | apply IsS51.alloc | apply IsS51.drewN | apply IsS51.drew | apply IsS51.set_1 | refine IsS51.far ?_ NB0_210.out _ | refine IsS51.far ?_ NB0_214.out _) | exact HI0.out), by repeat (first | (with_reducible first | exact HB.out | apply below_alloc | apply pw_below_drewN | apply below_drew1 | refine below_set ?_ (IsS51.ge HI0.out) | refine below_set ?_ GE210.out | refine below_set ?_ GE214.out) | exact HB.out), by repeat (first | (with_reducible first | exact HK.out | apply KeepBut.set_ | apply keep_drewN | apply keep_drew | apply keep_alloc | refine keep_far ?_ GW210.out _ | refine keep_far ?_ GW214.out _) | exact HK.out)⟩
     ·
      rw [if_neg c46] at H
      have c46b0 : ((wrap64 (t215)) == 2) = false := beq_eq_false_iff_ne.mpr c46
      have c46b1 : ((wrap64 (t215)) != 2) = true := bne_iff_ne.mpr c46
      by_cases c84 : (wrap64 (t215)) = 3
      ·
       rw [if_pos c84] at H
       have c84b0 : ((wrap64 (t215)) == 3) = true := beq_iff_eq.mpr c84
       have c84b1 : ((wrap64 (t215)) != 3) = false := bne_eq_false_iff_eq.mpr c84
       clear c84
       replace H := Option.bind_eq_some_iff.mp H
       obtain ⟨⟨t233, t234, t235⟩, A850, H⟩ := H
       replace H : (if t235 = 0 then (codec_decoder_node.l1 k a1 t233 0 s0_0 t234 t211 (wrap64 (t215)) 0 (⟨#[]⟩ : ByteArray) ([] : List (S24))) else (some (0, 0, 0, (⟨#[]⟩ : ByteArray), ([] : List (S24)), t234, t235))) = some (r1, r2, r3, r4, r5, r6, r7) := H
       have A85 := am A850
       clear A850
       by_cases c86 : t235 = 0
       ·
        rw [if_pos c86] at H
        have c86b0 : (t235 == 0) = true := beq_iff_eq.mpr c86
        have c86b1 : (t235 != 0) = false := bne_eq_false_iff_eq.mpr c86
        clear c86
        have H' := am H
        clear H
        go_enter Try.func24, Try.ntmps24
        go_wp2_with (first | ((with_reducible refine gate_dst (N := 4) rfl ?_); refine box_event ?hg (N := 4) ?hd (cs := #[.int .i64 0, .int .i64 0, .int .i64 0, .string (⟨#[]⟩ : ByteArray), .slice none 0 0]) (t := 24) ?hr ?_; (case hd => rfl); (case hg => rfl); (case hr => exact gz); intro gb210 hg w87 hbox hb; replace HB := am (below_step (by repeat (first | (with_reducible first | exact HB.out | apply below_alloc | apply pw_below_drewN | apply below_drew1 | refine below_set ?_ (IsS51.ge HI0.out)) | exact HB.out)) hb); have BK210 := am (hbox); have GW210 := am ((by rw [hg]; exact (keep_size (w := w) (g := g) (row := none) (by repeat (first | (with_reducible first | exact HK.out | apply KeepBut.set_ | apply keep_drewN | apply keep_drew | apply keep_alloc) | exact HK.out))) : w.heap.size ≤ gb210)); have GE210 := am ((Nat.le_trans HW0.out (by rw [hg]; exact (keep_size (w := w) (g := g) (row := none) (by repeat (first | (with_reducible first | exact HK.out | apply KeepBut.set_ | apply keep_drewN | apply keep_drew | apply keep_alloc) | exact HK.out))) : w.heap.size ≤ gb210) : w0.heap.size ≤ gb210)); replace HK := am (KeepBut.trans (by repeat (first | (with_reducible first | exact HK.out | apply KeepBut.set_ | apply keep_drewN | apply keep_drew | apply keep_alloc) | exact HK.out)) (KeepBut.of_below hb g none) (.inl rfl)); have NB0_210 := am ((by rw [hg]; exact Nat.ne_of_lt (IsS51.lt (show IsS51 w0 _ g s0_0 s0_1 from by repeat (first | (with_reducible first | exact HI0.out | apply IsS51.alloc | apply IsS51.drewN | apply IsS51.drew | apply IsS51.set_1) | exact HI0.out))) : g ≠ gb210)); have NB210_0 := am ((by rw [hg]; exact Nat.ne_of_gt (IsS51.lt (show IsS51 w0 _ g s0_0 s0_1 from by repeat (first | (with_reducible first | exact HI0.out | apply IsS51.alloc | apply IsS51.drewN | apply IsS51.drew | apply IsS51.set_1) | exact HI0.out))) : gb210 ≠ g)); replace HI0 := am (IsS51.below (by repeat (first | (with_reducible first | exact HI0.out | apply IsS51.alloc | apply IsS51.drewN | apply IsS51.drew | apply IsS51.set_1) | exact HI0.out)) hb); clear hb hbox hg) | ((with_reducible refine gate_callee (f := 30) rfl ?_); refine goesLP_ (some 15) rfl rfl Try.func30 (by kernel_rfl) rfl #[.pointer (some ⟨g, 0, none⟩), .int .u64 9999999, .int .i64 3] rfl lz ?_; (with_reducible refine (codec_decoder_limited.calls k g s0_0 s0_1 9999999 3 t211 t212 t213 w0 _ ?side1 ?side2 A5.out).mono ?_); (case side1 => repeat (first | (with_reducible first | exact HI0.out | apply IsS51.alloc | apply IsS51.drewN | apply IsS51.drew | apply IsS51.set_1 | refine IsS51.far ?_ NB0_210.out _) | exact HI0.out)); (case side2 => repeat (first | (with_reducible first | exact HB.out | apply below_alloc | apply pw_below_drewN | apply below_drew1 | refine below_set ?_ (IsS51.ge HI0.out) | refine below_set ?_ GE210.out) | exact HB.out)); rintro e w88 ⟨he_, hi, hb, hk⟩; (first | (refine zero_ he_ ?hz_ ?_; (case hz_ => (with_reducible assumption))) | (refine pan_ he_ ?hz_ ?_; (case hz_ => (with_reducible assumption)))); replace BK210 := am (KeepBut.blk hk (g' := gb210) (o := .cells #[.int .i64 0, .int .i64 0, .int .i64 0, .string (⟨#[]⟩ : ByteArray), .slice none 0 0] 24 (0, 0)) (bz BK210.out) NB210_0.out (by simp)); replace HK := am (KeepBut.trans (by repeat (first | (with_reducible first | exact HK.out | apply KeepBut.set_ | apply keep_drewN | apply keep_drew | apply keep_alloc | refine keep_far ?_ GW210.out _) | exact HK.out)) hk (.inl rfl)); replace HB := am (hb); replace HI0 := am (hi); (try clear hb); (try clear hb2); (try clear hk); (try clear hi)) | ((with_reducible refine gate_dst (N := 5) rfl ?_); refine box_event ?hg (N := 5) ?hd (cs := #[.int .i64 0, .int .i64 0, .int .i64 0, .string (⟨#[]⟩ : ByteArray), .slice none 0 0]) (t := 24) ?hr ?_; (case hd => rfl); (case hg => rfl); (case hr => exact gz); intro gb214 hg w89 hbox hb; replace HB := am (below_step (by repeat (first | (with_reducible first | exact HB.out | apply below_alloc | apply pw_below_drewN | apply below_drew1 | refine below_set ?_ (IsS51.ge HI0.out) | refine below_set ?_ GE210.out) | exact HB.out)) hb); have BK214 := am (hbox); have GW214 := am ((by rw [hg]; exact (keep_size (w := w) (g := g) (row := none) (by repeat (first | (with_reducible first | exact HK.out | apply KeepBut.set_ | apply keep_drewN | apply keep_drew | apply keep_alloc | refine keep_far ?_ GW210.out _) | exact HK.out))) : w.heap.size ≤ gb214)); have GE214 := am ((Nat.le_trans HW0.out (by rw [hg]; exact (keep_size (w := w) (g := g) (row := none) (by repeat (first | (with_reducible first | exact HK.out | apply KeepBut.set_ | apply keep_drewN | apply keep_drew | apply keep_alloc | refine keep_far ?_ GW210.out _) | exact HK.out))) : w.heap.size ≤ gb214) : w0.heap.size ≤ gb214)); replace HK := am (KeepBut.trans (by repeat (first | (with_reducible first | exact HK.out | apply KeepBut.set_ | apply keep_drewN | apply keep_drew | apply keep_alloc | refine keep_far ?_ GW210.out _) | exact HK.out)) (KeepBut.of_below hb g none) (.inl rfl)); have NB210_214 := am ((by rw [hg]; exact Nat.ne_of_lt (blk_lt (g := gb210) (o := .cells #[.int .i64 0, .int .i64 0, .int .i64 0, .string (⟨#[]⟩ : ByteArray), .slice none 0 0] 24 (0, 0)) (bz BK210.out)) : gb210 ≠ gb214)); have NB214_210 := am ((by rw [hg]; exact Nat.ne_of_gt (blk_lt (g := gb210) (o := .cells #[.int .i64 0, .int .i64 0, .int .i64 0, .string (⟨#[]⟩ : ByteArray), .slice none 0 0] 24 (0, 0)) (bz BK210.out)) : gb214 ≠ gb210)); replace BK210 := am (blk_below (g := gb210) (o := .cells #[.int .i64 0, .int .i64 0, .int .i64 0, .string (⟨#[]⟩ : ByteArray), .slice none 0 0] 24 (0, 0)) (bz BK210.out) hb); have NB0_214 := am ((by rw [hg]; exact Nat.ne_of_lt (IsS51.lt (show IsS51 w0 _ g s0_0 t212 from by repeat (first | (with_reducible first | exact HI0.out | apply IsS51.alloc | apply IsS51.drewN | apply IsS51.drew | apply IsS51.set_1 | refine IsS51.far ?_ NB0_210.out _) | exact HI0.out))) : g ≠ gb214)); have NB214_0 := am ((by rw [hg]; exact Nat.ne_of_gt (IsS51.lt (show IsS51 w0 _ g s0_0 t212 from by repeat (first | (with_reducible first | exact HI0.out | apply IsS51.alloc | apply IsS51.drewN | apply IsS51.drew | apply IsS51.set_1 | refine IsS51.far ?_ NB0_210.out _) | exact HI0.out))) : gb214 ≠ g)); replace HI0 := am (IsS51.below (by repeat (first | (with_reducible first | exact HI0.out | apply IsS51.alloc | apply IsS51.drewN | apply IsS51.drew | apply IsS51.set_1 | refine IsS51.far ?_ NB0_210.out _) | exact HI0.out)) hb); clear hb hbox hg; have hnb90 := NB214_210.out; have hnc90 := NB210_214.out; have hnb91 := NB214_0.out; have hnc91 := NB0_214.out; obtain ⟨hcz92_0, hcz92_1, hcz92_2, hcz92_3, hcz92_4⟩ := cs5 BK214.out; obtain ⟨hfz92_0, hfz92_1, hfz92_2, hfz92_3, hfz92_4⟩ := fs5 BK214.out) | ((with_reducible refine gate_callee (f := 31) rfl ?_); refine goesLP_ (some 18) rfl rfl Try.func31 (by kernel_rfl) rfl #[.pointer (some ⟨g, 0, none⟩)] rfl lz ?_; (with_reducible refine (codec_decoder_next.calls g s0_0 t212 t215 t216 t217 w0 _ ?side1 ?side2 A7.out).mono ?_); (case side1 => repeat (first | (with_reducible first | exact HI0.out | apply IsS51.alloc | apply IsS51.drewN | apply IsS51.drew | apply IsS51.set_1 | refine IsS51.far ?_ NB0_210.out _ | refine IsS51.far ?_ NB0_214.out _) | exact HI0.out)); (case side2 => repeat (first | (with_reducible first | exact HB.out | apply below_alloc | apply pw_below_drewN | apply below_drew1 | refine below_set ?_ (IsS51.ge HI0.out) | refine below_set ?_ GE210.out | refine below_set ?_ GE214.out) | exact HB.out)); rintro e w93 ⟨he_, hi, hb, hk⟩; (first | (refine zero_ he_ ?hz_ ?_; (case hz_ => (with_reducible assumption))) | (refine pan_ he_ ?hz_ ?_; (case hz_ => (with_reducible assumption)))); replace BK210 := am (KeepBut.blk hk (g' := gb210) (o := .cells #[.int .i64 0, .int .i64 0, .int .i64 0, .string (⟨#[]⟩ : ByteArray), .slice none 0 0] 24 (0, 0)) (bf1 NB210_214.out BK210.out) NB210_0.out (by simp)); replace BK214 := am (KeepBut.blk hk (g' := gb214) (o := .cells #[.int .i64 t211, .int .i64 0, .int .i64 0, .string (⟨#[]⟩ : ByteArray), .slice none 0 0] 24 (0, 0)) (by (with_reducible repeat (first | refine blk_drewN ?_ _ | refine blk_drew ?_ | refine blk_alloc ?_ _)); refine blk_put (cs := #[.int .i64 t211, .int .i64 0, .int .i64 0, .string (⟨#[]⟩ : ByteArray), .slice none 0 0]) ?_ 4 _ rfl; (with_reducible repeat (first | refine blk_drewN ?_ _ | refine blk_drew ?_ | refine blk_alloc ?_ _)); refine blk_put (cs := #[.int .i64 t211, .int .i64 0, .int .i64 0, .string (⟨#[]⟩ : ByteArray), .slice none 0 0]) ?_ 3 _ rfl; (with_reducible repeat (first | refine blk_drewN ?_ _ | refine blk_drew ?_ | refine blk_alloc ?_ _)); refine blk_put (cs := #[.int .i64 t211, .int .i64 0, .int .i64 0, .string (⟨#[]⟩ : ByteArray), .slice none 0 0]) ?_ 2 _ rfl; (with_reducible repeat (first | refine blk_drewN ?_ _ | refine blk_drew ?_ | refine blk_alloc ?_ _)); refine blk_put (cs := #[.int .i64 t211, .int .i64 0, .int .i64 0, .string (⟨#[]⟩ : ByteArray), .slice none 0 0]) ?_ 1 _ rfl; (with_reducible repeat (first | refine blk_drewN ?_ _ | refine blk_drew ?_ | refine blk_alloc ?_ _)); refine blk_put (cs := #[.int .i64 0, .int .i64 0, .int .i64 0, .string (⟨#[]⟩ : ByteArray), .slice none 0 0]) ?_ 0 _ rfl; (with_reducible repeat (first | refine blk_drewN ?_ _ | refine blk_drew ?_ | refine blk_alloc ?_ _)); exact BK214.out) NB214_0.out (by simp)); replace HK := am (KeepBut.trans (by repeat (first | (with_reducible first | exact HK.out | apply KeepBut.set_ | apply keep_drewN | apply keep_drew | apply keep_alloc | refine keep_far ?_ GW210.out _ | refine keep_far ?_ GW214.out _) | exact HK.out)) hk (.inl rfl)); replace HB := am (hb); replace HI0 := am (hi); (try clear hb); (try clear hb2); (try clear hk); (try clear hi); obtain ⟨hcz94_0, hcz94_1, hcz94_2, hcz94_3, hcz94_4⟩ := cs5 BK214.out; obtain ⟨hfz94_0, hfz94_1, hfz94_2, hfz94_3, hfz94_4⟩ := fs5 BK214.out) | ((with_reducible refine gate_callee (f := 30) rfl ?_); refine goesLP_ (some 62) rfl rfl Try.func30 (by kernel_rfl) rfl #[.pointer (some ⟨g, 0, none⟩), .int .u64 1024, .int .i64 5] rfl lz ?_; (with_reducible refine (codec_decoder_limited.calls k g s0_0 t216 1024 5 t233 t234 t235 w0 _ ?side1 ?side2 A85.out).mono ?_); (case side1 => repeat (first | (with_reducible first | exact HI0.out | apply IsS51.alloc | apply IsS51.drewN | apply IsS51.drew | apply IsS51.set_1 | refine IsS51.far ?_ NB0_210.out _ | refine IsS51.far ?_ NB0_214.out _) | exact HI0.out)); (case side2 => repeat (first | (with_reducible first | exact HB.out | apply below_alloc | apply pw_below_drewN | apply below_drew1 | refine below_set ?_ (IsS51.ge HI0.out) | refine below_set ?_ GE210.out | refine below_set ?_ GE214.out) | exact HB.out)); rintro e w95 ⟨he_, hi, hb, hk⟩; (first | (refine zero_ he_ ?hz_ ?_; (case hz_ => (with_reducible assumption))) | (refine pan_ he_ ?hz_ ?_; (case hz_ => (with_reducible assumption)))); replace BK210 := am (KeepBut.blk hk (g' := gb210) (o := .cells #[.int .i64 0, .int .i64 0, .int .i64 0, .string (⟨#[]⟩ : ByteArray), .slice none 0 0] 24 (0, 0)) (bf1 NB210_214.out BK210.out) NB210_0.out (by simp)); replace BK214 := am (KeepBut.blk hk (g' := gb214) (o := .cells #[.int .i64 t211, .int .i64 (wrap64 (t215)), .int .i64 0, .string (⟨#[]⟩ : ByteArray), .slice none 0 0] 24 (0, 0)) (by (with_reducible repeat (first | refine blk_drewN ?_ _ | refine blk_drew ?_ | refine blk_alloc ?_ _)); refine blk_put (cs := #[.int .i64 t211, .int .i64 0, .int .i64 0, .string (⟨#[]⟩ : ByteArray), .slice none 0 0]) ?_ 1 _ rfl; (with_reducible repeat (first | refine blk_drewN ?_ _ | refine blk_drew ?_ | refine blk_alloc ?_ _)); exact BK214.out) NB214_0.out (by simp)); replace HK := am (KeepBut.trans (by repeat (first | (with_reducible first | exact HK.out | apply KeepBut.set_ | apply keep_drewN | apply keep_drew | apply keep_alloc | refine keep_far ?_ GW210.out _ | refine keep_far ?_ GW214.out _) | exact HK.out)) hk (.inl rfl)); replace HB := am (hb); replace HI0 := am (hi); (try clear hb); (try clear hb2); (try clear hk); (try clear hi)))
        go_loopg [64] k (fun kq v64 w' => ∃ (x64_1 : Int) (x1001_1 : Int) (x215004_1 : List (S24)) (u215004 : Value), v64 = .int .i64 x64_1 ∧ Aside0 (codec_decoder_node.l1 kq a1 t233 x64_1 s0_0 x1001_1 t211 (wrap64 (t215)) 0 (⟨#[]⟩ : ByteArray) x215004_1 = some (r1, r2, r3, r4, r5, r6, r7)) ∧ Aside0 (kq ≤ k) ∧ Aside0 (Kd.R k24 24 w' w.heap.size (fun k_ => k_ ≠ gb210 ∧ k_ ≠ gb214) u215004 x215004_1) ∧ Aside0 (w'.heap[gb210]? = some (.cells #[.int .i64 0, .int .i64 0, .int .i64 0, .string (⟨#[]⟩ : ByteArray), (.slice none 0 0)] 24 (0, 0))) ∧ Aside0 (w'.heap[gb214]? = some (.cells #[.int .i64 t211, .int .i64 (wrap64 (t215)), .int .i64 0, .string (⟨#[]⟩ : ByteArray), u215004] 24 (0, 0))) ∧ Aside0 (IsS51 w0 w' g s0_0 x1001_1) ∧ Aside0 (KeepBut w w' g none) ∧ Aside0 (Below w0.heap.size w0 w'))
        case atStart => exact ⟨(0), (t234), (([] : List (S24))), (.slice none 0 0), (by first | rfl | (simp; done) | (simp [*]; done)), H', ⟨Nat.le_refl _⟩, ⟨by first | exact Kd.R_nil _ _ _ _ _ | exact Kd.N_nil _ _ _ _ _ | exact Kd.V_nil _ _ _ _ _ | exact Kd.Q_nil _ _ _ _ _ | exact Kd.S_nil _ _ _ _ _⟩, ⟨by (with_reducible repeat (first | refine blk_drewN ?_ _ | refine blk_drew ?_ | refine blk_alloc ?_ _)); exact BK210.out⟩, ⟨by (with_reducible repeat (first | refine blk_drewN ?_ _ | refine blk_drew ?_ | refine blk_alloc ?_ _)); exact BK214.out⟩, ⟨by repeat (first | (with_reducible first | exact HI0.out | apply IsS51.alloc | apply IsS51.drewN | apply IsS51.drew | apply IsS51.set_1 | refine IsS51.far ?_ NB0_210.out _ | refine IsS51.far ?_ NB0_214.out _) | exact HI0.out)⟩, ⟨by repeat (first | (with_reducible first | exact HK.out | apply KeepBut.set_ | apply keep_drewN | apply keep_drew | apply keep_alloc | refine keep_far ?_ GW210.out _ | refine keep_far ?_ GW214.out _) | exact HK.out)⟩, ⟨by repeat (first | (with_reducible first | exact HB.out | apply below_alloc | apply pw_below_drewN | apply below_drew1 | refine below_set ?_ (IsS51.ge HI0.out) | refine below_set ?_ GE210.out | refine below_set ?_ GE214.out) | exact HB.out)⟩⟩
        case round =>
         clear H'
         try clear c1
         try clear c2
         try clear p2
         try clear c3
         try clear c3b0
         try clear c4
         try clear c5
         try clear c6
         try clear c6b0
         try clear c6b1
         try clear p6
         try clear hcv6
         try clear c7
         try clear c8
         try clear c8b0
         try clear c8b1
         try clear c9
         try clear c9b0
         try clear c9b1
         try clear c11
         try clear c11b0
         try clear c11b1
         try clear c12
         try clear c12b0
         try clear c12b1
         try clear c16
         try clear c17
         try clear c23
         try clear c24
         try clear c28
         try clear c29
         try clear c30
         try clear c31
         try clear c32
         try clear c35
         try clear c40
         try clear c41
         try clear c46
         try clear c46b0
         try clear c46b1
         try clear c48
         try clear c48b0
         try clear c48b1
         try clear c49
         try clear c49b0
         try clear c49b1
         try clear c50
         try clear c50b0
         try clear c50b1
         try clear c54
         try clear c55
         try clear c62
         try clear c62b0
         try clear c64
         try clear c64b0
         try clear c64b1
         try clear p64
         try clear c65
         try clear hcv69
         try clear c70
         try clear c71
         try clear c73
         try clear c78
         try clear c79
         try clear c84
         try clear c84b0
         try clear c84b1
         try clear c86
         try clear c86b0
         try clear c86b1
         try clear c90
         try clear c91
         try clear hcz18_0
         try clear hcz18_1
         try clear hcz18_2
         try clear hcz18_3
         try clear hcz18_4
         try clear hcz20_0
         try clear hcz20_1
         try clear hcz20_2
         try clear hcz20_3
         try clear hcz20_4
         try clear hcz22_0
         try clear hcz22_1
         try clear hcz22_2
         try clear hcz22_3
         try clear hcz22_4
         try clear hcz24_0
         try clear hcz24_1
         try clear hcz24_2
         try clear hcz24_3
         try clear hcz24_4
         try clear hcz30_0
         try clear hcz30_1
         try clear hcz30_2
         try clear hcz30_3
         try clear hcz30_4
         try clear hcz32_0
         try clear hcz32_1
         try clear hcz32_2
         try clear hcz32_3
         try clear hcz32_4
         try clear hcz34_0
         try clear hcz34_1
         try clear hcz34_2
         try clear hcz34_3
         try clear hcz34_4
         try clear hcz36_0
         try clear hcz36_1
         try clear hcz36_2
         try clear hcz36_3
         try clear hcz36_4
         try clear hcz42_0
         try clear hcz42_1
         try clear hcz42_2
         try clear hcz42_3
         try clear hcz42_4
         try clear hcz44_0
         try clear hcz44_1
         try clear hcz44_2
         try clear hcz44_3
         try clear hcz44_4
         try clear hcz56_0
         try clear hcz56_1
         try clear hcz56_2
         try clear hcz56_3
         try clear hcz56_4
         try clear hcz58_0
         try clear hcz58_1
         try clear hcz58_2
         try clear hcz58_3
         try clear hcz58_4
         try clear hcz72_0
         try clear hcz72_1
         try clear hcz72_2
         try clear hcz72_3
         try clear hcz72_4
         try clear hcz74_0
         try clear hcz74_1
         try clear hcz74_2
         try clear hcz74_3
         try clear hcz74_4
         try clear hcz80_0
         try clear hcz80_1
         try clear hcz80_2
         try clear hcz80_3
         try clear hcz80_4
         try clear hcz82_0
         try clear hcz82_1
         try clear hcz82_2
         try clear hcz82_3
         try clear hcz82_4
         try clear hcz92_0
         try clear hcz92_1
         try clear hcz92_2
         try clear hcz92_3
         try clear hcz92_4
         try clear hcz94_0
         try clear hcz94_1
         try clear hcz94_2
         try clear hcz94_3
         try clear hcz94_4
         try clear hfz18_0
         try clear hfz18_1
         try clear hfz18_2
         try clear hfz18_3
         try clear hfz18_4
         try clear hfz20_0
         try clear hfz20_1
         try clear hfz20_2
         try clear hfz20_3
         try clear hfz20_4
         try clear hfz22_0
         try clear hfz22_1
         try clear hfz22_2
         try clear hfz22_3
         try clear hfz22_4
         try clear hfz24_0
         try clear hfz24_1
         try clear hfz24_2
         try clear hfz24_3
         try clear hfz24_4
         try clear hfz30_0
         try clear hfz30_1
         try clear hfz30_2
         try clear hfz30_3
         try clear hfz30_4
         try clear hfz32_0
         try clear hfz32_1
         try clear hfz32_2
         try clear hfz32_3
         try clear hfz32_4
         try clear hfz34_0
         try clear hfz34_1
         try clear hfz34_2
         try clear hfz34_3
         try clear hfz34_4
         try clear hfz36_0
         try clear hfz36_1
         try clear hfz36_2
         try clear hfz36_3
         try clear hfz36_4
         try clear hfz42_0
         try clear hfz42_1
         try clear hfz42_2
         try clear hfz42_3
         try clear hfz42_4
         try clear hfz44_0
         try clear hfz44_1
         try clear hfz44_2
         try clear hfz44_3
         try clear hfz44_4
         try clear hfz56_0
         try clear hfz56_1
         try clear hfz56_2
         try clear hfz56_3
         try clear hfz56_4
         try clear hfz58_0
         try clear hfz58_1
         try clear hfz58_2
         try clear hfz58_3
         try clear hfz58_4
         try clear hfz72_0
         try clear hfz72_1
         try clear hfz72_2
         try clear hfz72_3
         try clear hfz72_4
         try clear hfz74_0
         try clear hfz74_1
         try clear hfz74_2
         try clear hfz74_3
         try clear hfz74_4
         try clear hfz80_0
         try clear hfz80_1
         try clear hfz80_2
         try clear hfz80_3
         try clear hfz80_4
         try clear hfz82_0
         try clear hfz82_1
         try clear hfz82_2
         try clear hfz82_3
         try clear hfz82_4
         try clear hfz92_0
         try clear hfz92_1
         try clear hfz92_2
         try clear hfz92_3
         try clear hfz92_4
         try clear hfz94_0
         try clear hfz94_1
         try clear hfz94_2
         try clear hfz94_3
         try clear hfz94_4
         try clear p2
         try clear p6
         obtain ⟨x64_1, x1001_1, x215004_1, u215004, rfl, HA, HK1, HO_215004, BK210, BK214, HI0, HK, HB⟩ := hrel
         cases gk with
         | zero => exact absurd HA.out (by simp [codec_decoder_node.l1])
         | succ k1 =>
          have H := HA.out
          clear HA
          simp only [codec_decoder_node.l1] at H
          by_cases c96 : x64_1 < t233
          ·
           rw [if_pos c96] at H
           have c96b0 : decide (x64_1 < t233) = true := decide_eq_true c96
           clear c96
           replace H := Option.bind_eq_some_iff.mp H
           obtain ⟨⟨t236, t237, t238, t239, t240, t243, t244⟩, A970, H⟩ := H
           replace H : (if t244 = 0 then (if x215004_1.length < 2199023255552 then (codec_decoder_node.l1 k1 a1 t233 (wrap64 (x64_1 + 1)) s0_0 t243 t211 (wrap64 (t215)) 0 (⟨#[]⟩ : ByteArray) (x215004_1 ++ [(⟨t236, t237, t238, t239, t240⟩ : S24)])) else (none)) else (some (0, 0, 0, (⟨#[]⟩ : ByteArray), ([] : List (S24)), t243, t244))) = some (r1, r2, r3, r4, r5, r6, r7) := H
           have A97 := am A970
           clear A970
           by_cases c98 : t244 = 0
           ·
            rw [if_pos c98] at H
            have c98b0 : (t244 == 0) = true := beq_iff_eq.mpr c98
            have c98b1 : (t244 != 0) = false := bne_eq_false_iff_eq.mpr c98
            clear c98
            replace H := it_ H
            obtain ⟨c99, H⟩ := H
            have LMc99 := am c99
            clear c99
            obtain ⟨y245, hy245⟩ : ∃ y_ : List (S24), y_ = (x215004_1 ++ [(⟨t236, t237, t238, t239, t240⟩ : S24)]) := ⟨_, rfl⟩
            replace H : (codec_decoder_node.l1 k1 a1 t233 (wrap64 (x64_1 + 1)) s0_0 t243 t211 (wrap64 (t215)) 0 (⟨#[]⟩ : ByteArray) y245) = some (r1, r2, r3, r4, r5, r6, r7) := by first | (rw [hy245]; with_reducible exact H) | (have H2_ := (Option.bind_some _ _).symm.trans H; rw [hy245]; with_reducible exact H2_) | (have H2_ := (Option.bind_some _ _).symm.trans H; with_reducible exact H2_) | with_reducible exact H | (rw [hy245]; exact H) | exact H
            have Ny245 := am hy245
            clear hy245
            have H' := am H
            clear H
            try go_wp2
            replace HO_215004 := am (Kd.R_drew HO_215004.out)
            replace BK210 := am (blk_drew BK210.out)
            replace BK214 := am (blk_drew BK214.out)
            replace HI0 := am (IsS51.drew HI0.out)
            replace HK := am (keep_drew HK.out)
            replace HB := am (below_drew1 HB.out)
            refine start_ (n := 10) (S := fun w' => w'.cell? ⟨gb214, 0, none⟩ = some (.int .i64 t211) ∧ w'.cell? ⟨gb214, 1, none⟩ = some (.int .i64 (wrap64 (t215))) ∧ w'.cell? ⟨gb214, 2, none⟩ = some (.int .i64 0) ∧ w'.cell? ⟨gb214, 3, none⟩ = some (.string (⟨#[]⟩ : ByteArray)) ∧ w'.cell? ⟨gb214, 4, none⟩ = some (u215004)) (ds := [9]) #[false, false, false, false, false, false, false, false, false, false] (by kernel_rfl) rfl rfl ⟨(blk_cell BK214.out 0).trans rfl, (blk_cell BK214.out 1).trans rfl, (blk_cell BK214.out 2).trans rfl, (blk_cell BK214.out 3).trans rfl, (blk_cell BK214.out 4).trans rfl⟩ (fun hHeld => ?_); refine with_tabW codec_decoder_node.tab24 codec_decoder_node.bits24 (fun HT_ HW_ => ?_)
            generalize wr.drew = w100 at HO_215004 BK210 BK214 HI0 HK HB hHeld ⊢
            refine pz 0 66 HT_.out ?_
            refine pz 2 68 HT_.out ?_
            refine pz 3 69 HT_.out ?_
            refine pz 4 70 HT_.out ?_
            refine take_ (i := 1) (N := some 67) (v := ?_) (a' := ?_) #[true, true, true, true, true, false, false, false, false, false] rfl rfl (take_ofW HT_.out HW_.out (by kernel_rfl)) (fun _ _ _ h => h) (Or.inl ⟨by rfl, ?_⟩) hHeld ?_ ?_
            rotate_left
            ·
             rintro w' ⟨s0, s1, s2, s3, s4⟩
             go_simp
             with_reducible rfl
            rotate_left
            ·
             simp only [Act.put, List.setIfInBounds_toArray, List.set_cons_zero, List.set_cons_succ, i64_w, i32_w]
             rfl
            refine oz 5 71 HT_.out (fun K hK => ?_)
            refine goesP_ Try.func24 (by kernel_rfl) rfl #[.pointer (some ⟨g, 0, none⟩), .int .i64 (wrap64 (a1 + 1))] (by rfl) rfl rfl lz ?_
            with_reducible refine (ih k1 (by have := HK1.out; omega) g s0_0 x1001_1 (wrap64 (a1 + 1)) t236 t237 t238 t239 t240 t243 t244 w0 _ ?side1 ?side2 A97.out).mono ?_
            (case side1 => repeat (first | (with_reducible first | exact HI0.out | apply IsS51.alloc | apply IsS51.drewN | apply IsS51.drew | apply IsS51.set_1 | refine IsS51.far ?_ NB0_210.out _ | refine IsS51.far ?_ NB0_214.out _) | exact HI0.out))
            (case side2 => repeat (first | (with_reducible first | exact HB.out | apply below_alloc | apply pw_below_drewN | apply below_drew1 | refine below_set ?_ (IsS51.ge HI0.out) | refine below_set ?_ GE210.out | refine below_set ?_ GE214.out) | exact HB.out))
            rintro e w101 ⟨v241, he_, ho0, hi, hb, hk⟩
            (first | (refine zero_ he_ ?hz_ ?_; (case hz_ => (with_reducible assumption))) | (refine pan_ he_ ?hz_ ?_; (case hz_ => (with_reducible assumption))))
            have HO242 := am (Kd.R_lower (Kd.R_newB (Kd.R_newB (Kd.R_new' ho0 (Kd.R_lt (rz HO_215004.out))) (g := gb210) (o := .cells #[.int .i64 0, .int .i64 0, .int .i64 0, .string (⟨#[]⟩ : ByteArray), .slice none 0 0] 24 (0, 0)) (bz BK210.out)) (g := gb214) (o := .cells #[.int .i64 t211, .int .i64 (wrap64 (t215)), .int .i64 0, .string (⟨#[]⟩ : ByteArray), u215004] 24 (0, 0)) (bz BK214.out)) (keep_size (w := w) (g := g) (row := none) (by repeat (first | (with_reducible first | exact HK.out | apply KeepBut.set_ | apply keep_drewN | apply keep_drew | apply keep_alloc | refine keep_far ?_ GW210.out _ | refine keep_far ?_ GW214.out _) | exact HK.out))))
            replace HO_215004 := am (Kd.R_mono (Kd.R_told (Kd.R_oldK (IsS51.apart (show IsS51 w0 _ g s0_0 x1001_1 from by repeat (first | (with_reducible first | exact HI0.out | apply IsS51.alloc | apply IsS51.drewN | apply IsS51.drew | apply IsS51.set_1 | refine IsS51.far ?_ NB0_210.out _ | refine IsS51.far ?_ NB0_214.out _) | exact HI0.out)) (rz HO_215004.out) (by decide)) hk) (Kd.R_base ho0)) (fun _ h_ => h_.1))
            replace BK210 := am (KeepBut.blk hk (g' := gb210) (o := .cells #[.int .i64 0, .int .i64 0, .int .i64 0, .string (⟨#[]⟩ : ByteArray), .slice none 0 0] 24 (0, 0)) (bz BK210.out) NB210_0.out (by simp))
            replace BK214 := am (KeepBut.blk hk (g' := gb214) (o := .cells #[.int .i64 t211, .int .i64 (wrap64 (t215)), .int .i64 0, .string (⟨#[]⟩ : ByteArray), u215004] 24 (0, 0)) (bz BK214.out) NB214_0.out (by simp))
            replace HK := am (KeepBut.trans (by repeat (first | (with_reducible first | exact HK.out | apply KeepBut.set_ | apply keep_drewN | apply keep_drew | apply keep_alloc | refine keep_far ?_ GW210.out _ | refine keep_far ?_ GW214.out _) | exact HK.out)) hk (.inl rfl))
            replace HB := am (hb)
            replace HI0 := am (hi)
            (try clear hb)
            (try clear hb2)
            (try clear hk)
            (try clear hi)
            (try clear ho0)
            obtain ⟨Ao103, co103, eo103⟩ := Kd.R_slice HO242.out
            (first | subst eo103 | (injection eo103 with f1_ f2_ f3_; have f4_ := f1_.symm; have f5_ := f3_.symm; clear f1_ f2_ f3_; subst f4_; subst f5_))
            refine hK.out _ _ ⟨(blk_cell BK214.out 0).trans rfl, (blk_cell BK214.out 1).trans rfl, (blk_cell BK214.out 2).trans rfl, (blk_cell BK214.out 3).trans rfl, (blk_cell BK214.out 4).trans rfl⟩ (fun hHeld => ?_)
            clear hK K
            refine norm_ (a' := ?_) ?_ ?_
            rotate_left
            ·
             show Act.put _ (some 71) _ = _
             simp only [Act.put, List.setIfInBounds_toArray, List.set_cons_zero, List.set_cons_succ, i64_w, i32_w]
             rfl
            refine oz 6 72 HT_.out (fun K hK => ?_)
            refine value_ (w1 := ?_) (v := ?_) (by rfl) rfl ?_ ?_
            rotate_left 2
            ·
             go_simp
             constructor
             ·
              rfl
             ·
              rfl
            refine hK.out _ _ ⟨(blk_cell (blk_alloc BK214.out _) 0).trans rfl, (blk_cell (blk_alloc BK214.out _) 1).trans rfl, (blk_cell (blk_alloc BK214.out _) 2).trans rfl, (blk_cell (blk_alloc BK214.out _) 3).trans rfl, (blk_cell (blk_alloc BK214.out _) 4).trans rfl⟩ (fun hHeld => ?_)
            clear hK K
            refine norm_ (a' := ?_) ?_ ?_
            rotate_left
            ·
             show Act.put _ (some 72) _ = _
             simp only [Act.put, List.setIfInBounds_toArray, List.set_cons_zero, List.set_cons_succ, i64_w, i32_w]
             rfl
            refine oz 7 73 HT_.out (fun K hK => ?_)
            refine Kd.R_append_step k24 w.heap.size (by rfl) (.tmp 67) (.tmp 72) 22 24 (.agg #[(.int .i64 0), (.int .i64 0), (.int .i64 0), (.string ⟨#[]⟩), (.slice none 0 0)]) 64 rfl Try.underlying22 info24 rfl (by decide) (by omega) u215004 x215004_1 (⟨t236, t237, t238, t239, t240⟩ : S24) [.int .i64 t236, .int .i64 t237, .int .i64 t238, .string t239, .slice Ao103 t240.length co103] (fun k_ => k_ ≠ gb210 ∧ k_ ≠ gb214) (fun k_ => ((fun k_ => k_ ≠ gb210 ∧ k_ ≠ gb214)) k_ ∧ some k_ ≠ (u215004 : Value).ownBlock) rfl rfl ?aP (fun _ hk => hk) ?aF ?aO (Below.refl _ _) ?aS ?aL ?_
            (case aP => exact k24_mkM _ _ _ (⟨t236, t237, t238, t239, t240⟩ : S24) (Kd.R_mono (HO242.out) (fun k_ hk => ⟨⟨hk.1.2, hk.2⟩, hk.1.1.2⟩)))
            (case aF => exact (fun k_ hk => ⟨Kd.freshB (g := gb210) (o := .cells #[.int .i64 0, .int .i64 0, .int .i64 0, .string (⟨#[]⟩ : ByteArray), .slice none 0 0] 24 (0, 0)) (bz BK210.out) k_ hk, Kd.freshB (g := gb214) (o := .cells #[.int .i64 t211, .int .i64 (wrap64 (t215)), .int .i64 0, .string (⟨#[]⟩ : ByteArray), u215004] 24 (0, 0)) (bz BK214.out) k_ hk⟩))
            (case aO => exact (rz (Kd.R_mono HO_215004.out (fun _ hk => ⟨hk.1.1, hk.1.2⟩))))
            (case aS => exact (keep_size (w := w) (g := g) (row := none) (by repeat (first | (with_reducible first | exact HK.out | apply KeepBut.set_ | apply keep_drewN | apply keep_drew | apply keep_alloc | refine keep_far ?_ GW210.out _ | refine keep_far ?_ GW214.out _) | exact HK.out))))
            (case aL => have := LMc99.out; omega)
            intro v246 w102 ho hb hg hat
            rw [← Ny245.out] at ho
            replace BK210 := am (blk_grown (g := gb210) (o := .cells #[.int .i64 0, .int .i64 0, .int .i64 0, .string (⟨#[]⟩ : ByteArray), .slice none 0 0] 24 (0, 0)) (bz BK210.out) hg (Kd.R_away HO_215004.out (fun _ hk => hk.1.1)))
            replace BK214 := am (blk_grown (g := gb214) (o := .cells #[.int .i64 t211, .int .i64 (wrap64 (t215)), .int .i64 0, .string (⟨#[]⟩ : ByteArray), u215004] 24 (0, 0)) (bz BK214.out) hg (Kd.R_away HO_215004.out (fun _ hk => hk.1.2)))
            replace HB := am (below_weaken (by repeat (first | (with_reducible first | exact HB.out | apply below_alloc | apply pw_below_drewN | apply below_drew1 | refine below_set ?_ (IsS51.ge HI0.out) | refine below_set ?_ GE210.out | refine below_set ?_ GE214.out) | exact HB.out)) HL.out hb)
            replace HI0 := am (IsS51.grown (by repeat (first | (with_reducible first | exact HI0.out | apply IsS51.alloc | apply IsS51.drewN | apply IsS51.drew | apply IsS51.set_1 | refine IsS51.far ?_ NB0_210.out _ | refine IsS51.far ?_ NB0_214.out _) | exact HI0.out)) hg (IsS51.own_ne HI0.out HO_215004.out (by decide)))
            replace HK := am (KeepBut.trans (by repeat (first | (with_reducible first | exact HK.out | apply KeepBut.set_ | apply keep_drewN | apply keep_drew | apply keep_alloc | refine keep_far ?_ GW210.out _ | refine keep_far ?_ GW214.out _) | exact HK.out)) (KeepBut.of_grown hg g) (Kd.R_base2 HO_215004.out))
            have HO247 := am (ho)
            clear HO_215004 HO242
            clear ho hb hg hat
            obtain ⟨Ao104, co104, eo104⟩ := Kd.R_slice HO247.out
            (first | subst eo104 | (injection eo104 with f1_ f2_ f3_; have f4_ := f1_.symm; have f5_ := f3_.symm; clear f1_ f2_ f3_; subst f4_; subst f5_))
            refine hK.out _ _ ⟨(blk_cell BK214.out 0).trans rfl, (blk_cell BK214.out 1).trans rfl, (blk_cell BK214.out 2).trans rfl, (blk_cell BK214.out 3).trans rfl, (blk_cell BK214.out 4).trans rfl⟩ (fun hHeld => ?_)
            clear hK K
            refine norm_ (a' := ?_) ?_ ?_
            rotate_left
            ·
             show Act.put _ (some 73) _ = _
             simp only [Act.put, List.setIfInBounds_toArray, List.set_cons_zero, List.set_cons_succ, i64_w, i32_w]
             rfl
            refine pz 8 74 HT_.out ?_
            refine last_ (i := 9) (N := none) #[true, true, true, true, true, true, true, true, true, true] rfl rfl (one_of HT_.out (by kernel_rfl)) (by decide) (fun K hK => ?_)
            have hs105 : w102.cell? ⟨gb214, 4, none⟩ = some (u215004) := (blk_cell BK214.out 4).trans rfl
            have hfs105 := blk_frozen BK214.out 4
            have hns105_0 := NB210_214.out
            have hms105_0 := NB214_210.out
            refine skip_ (w1 := ?_) (by rfl) rfl ?_ ?_
            rotate_left
            ·
             go_simp
             rfl
            refine hK.out _ _ ?_
            clear hK K
            refine done_ (done_of HT_.out (by kernel_rfl)) ?_
            try go_wp2
            go_roundg k1
            case measure => have := HK1.out; omega
            case rel => exact ⟨(wrap64 (x64_1 + 1)), (t243), (y245), (.slice Ao104 y245.length co104), (by first | rfl | (simp; done) | (simp [*]; done)), H', ⟨by have := HK1.out; omega⟩, ⟨by (with_reducible repeat (first | apply Kd.R_alloc | apply Kd.R_drewN | apply Kd.R_drew)); exact Kd.R_mono (Kd.R_far (p := ⟨gb214, 4, none⟩) (Kd.R_mono HO247.out (fun k_ hk => (⟨hk, hk.2⟩ : _ ∧ k_ ≠ gb214))) (fun _ hk => hk.2) (.slice Ao104 y245.length co104)) (fun _ hk => ⟨hk.1.1, hk.1.2⟩)⟩, ⟨bf1 NB210_214.out BK210.out⟩, ⟨by (with_reducible repeat (first | refine blk_drewN ?_ _ | refine blk_drew ?_ | refine blk_alloc ?_ _)); refine blk_put (cs := #[.int .i64 t211, .int .i64 (wrap64 (t215)), .int .i64 0, .string (⟨#[]⟩ : ByteArray), u215004]) ?_ 4 _ rfl; (with_reducible repeat (first | refine blk_drewN ?_ _ | refine blk_drew ?_ | refine blk_alloc ?_ _)); exact BK214.out⟩, ⟨by repeat (first | (with_reducible first | exact HI0.out | apply IsS51.alloc | apply IsS51.drewN | apply IsS51.drew | apply IsS51.set_1 | refine IsS51.far ?_ NB0_210.out _ | refine IsS51.far ?_ NB0_214.out _) | exact HI0.out)⟩, ⟨by repeat (first | (with_reducible first | exact HK.out | apply KeepBut.set_ | apply keep_drewN | apply keep_drew | apply keep_alloc | refine keep_far ?_ GW210.out _ | refine keep_far ?_ GW214.out _) | exact HK.out)⟩, ⟨by repeat (first | (with_reducible first | exact HB.out | apply below_alloc | apply pw_below_drewN | apply below_drew1 | refine below_set ?_ (IsS51.ge HI0.out) | refine below_set ?_ GE210.out | refine below_set ?_ GE214.out) | exact HB.out)⟩⟩
           ·
            rw [if_neg c98] at H
            have c98b0 : (t244 == 0) = false := beq_eq_false_iff_ne.mpr c98
            have c98b1 : (t244 != 0) = true := bne_iff_ne.mpr c98
            simp only [Option.some.injEq, Prod.mk.injEq] at H
            obtain ⟨rfl, rfl, rfl, rfl, rfl, rfl, rfl⟩ := H
            try go_wp2
            replace HO_215004 := am (Kd.R_drew HO_215004.out)
            replace BK210 := am (blk_drew BK210.out)
            replace BK214 := am (blk_drew BK214.out)
            replace HI0 := am (IsS51.drew HI0.out)
            replace HK := am (keep_drew HK.out)
            replace HB := am (below_drew1 HB.out)
            refine start_ (n := 10) (S := fun w' => w'.cell? ⟨gb214, 0, none⟩ = some (.int .i64 t211) ∧ w'.cell? ⟨gb214, 1, none⟩ = some (.int .i64 (wrap64 (t215))) ∧ w'.cell? ⟨gb214, 2, none⟩ = some (.int .i64 0) ∧ w'.cell? ⟨gb214, 3, none⟩ = some (.string (⟨#[]⟩ : ByteArray)) ∧ w'.cell? ⟨gb214, 4, none⟩ = some (u215004)) (ds := []) #[false, false, false, false, false, false, false, false, false, false] (by kernel_rfl) rfl rfl ⟨(blk_cell BK214.out 0).trans rfl, (blk_cell BK214.out 1).trans rfl, (blk_cell BK214.out 2).trans rfl, (blk_cell BK214.out 3).trans rfl, (blk_cell BK214.out 4).trans rfl⟩ (fun hHeld => ?_); refine with_tabW codec_decoder_node.tab24 codec_decoder_node.bits24 (fun HT_ HW_ => ?_)
            generalize wr.drew = w106 at HO_215004 BK210 BK214 HI0 HK HB hHeld ⊢
            refine pz 0 66 HT_.out ?_
            refine pz 2 68 HT_.out ?_
            refine pz 3 69 HT_.out ?_
            refine pz 4 70 HT_.out ?_
            refine take_ (i := 1) (N := some 67) (v := ?_) (a' := ?_) #[true, true, true, true, true, false, false, false, false, false] rfl rfl (take_ofW HT_.out HW_.out (by kernel_rfl)) (fun _ _ _ h => h) (Or.inl ⟨by rfl, ?_⟩) hHeld ?_ ?_
            rotate_left
            ·
             rintro w' ⟨s0, s1, s2, s3, s4⟩
             go_simp
             with_reducible rfl
            rotate_left
            ·
             simp only [Act.put, List.setIfInBounds_toArray, List.set_cons_zero, List.set_cons_succ, i64_w, i32_w]
             rfl
            refine oz 5 71 HT_.out (fun K hK => ?_)
            refine goesP_ Try.func24 (by kernel_rfl) rfl #[.pointer (some ⟨g, 0, none⟩), .int .i64 (wrap64 (a1 + 1))] (by rfl) rfl rfl lz ?_
            with_reducible refine (ih k1 (by have := HK1.out; omega) g s0_0 x1001_1 (wrap64 (a1 + 1)) t236 t237 t238 t239 t240 t243 t244 w0 _ ?side1 ?side2 A97.out).mono ?_
            (case side1 => repeat (first | (with_reducible first | exact HI0.out | apply IsS51.alloc | apply IsS51.drewN | apply IsS51.drew | apply IsS51.set_1 | refine IsS51.far ?_ NB0_210.out _ | refine IsS51.far ?_ NB0_214.out _) | exact HI0.out))
            (case side2 => repeat (first | (with_reducible first | exact HB.out | apply below_alloc | apply pw_below_drewN | apply below_drew1 | refine below_set ?_ (IsS51.ge HI0.out) | refine below_set ?_ GE210.out | refine below_set ?_ GE214.out) | exact HB.out))
            rintro e w107 ⟨v241, he_, ho0, hi, hb, hk⟩
            (first | (refine zero_ he_ ?hz_ ?_; (case hz_ => (with_reducible assumption))) | (refine pan_ he_ ?hz_ ?_; (case hz_ => (with_reducible assumption))))
            have HO242 := am (Kd.R_lower (Kd.R_newB (Kd.R_newB (Kd.R_new' ho0 (Kd.R_lt (rz HO_215004.out))) (g := gb210) (o := .cells #[.int .i64 0, .int .i64 0, .int .i64 0, .string (⟨#[]⟩ : ByteArray), .slice none 0 0] 24 (0, 0)) (bz BK210.out)) (g := gb214) (o := .cells #[.int .i64 t211, .int .i64 (wrap64 (t215)), .int .i64 0, .string (⟨#[]⟩ : ByteArray), u215004] 24 (0, 0)) (bz BK214.out)) (keep_size (w := w) (g := g) (row := none) (by repeat (first | (with_reducible first | exact HK.out | apply KeepBut.set_ | apply keep_drewN | apply keep_drew | apply keep_alloc | refine keep_far ?_ GW210.out _ | refine keep_far ?_ GW214.out _) | exact HK.out))))
            replace HO_215004 := am (Kd.R_mono (Kd.R_told (Kd.R_oldK (IsS51.apart (show IsS51 w0 _ g s0_0 x1001_1 from by repeat (first | (with_reducible first | exact HI0.out | apply IsS51.alloc | apply IsS51.drewN | apply IsS51.drew | apply IsS51.set_1 | refine IsS51.far ?_ NB0_210.out _ | refine IsS51.far ?_ NB0_214.out _) | exact HI0.out)) (rz HO_215004.out) (by decide)) hk) (Kd.R_base ho0)) (fun _ h_ => h_.1))
            replace BK210 := am (KeepBut.blk hk (g' := gb210) (o := .cells #[.int .i64 0, .int .i64 0, .int .i64 0, .string (⟨#[]⟩ : ByteArray), .slice none 0 0] 24 (0, 0)) (bz BK210.out) NB210_0.out (by simp))
            replace BK214 := am (KeepBut.blk hk (g' := gb214) (o := .cells #[.int .i64 t211, .int .i64 (wrap64 (t215)), .int .i64 0, .string (⟨#[]⟩ : ByteArray), u215004] 24 (0, 0)) (bz BK214.out) NB214_0.out (by simp))
            replace HK := am (KeepBut.trans (by repeat (first | (with_reducible first | exact HK.out | apply KeepBut.set_ | apply keep_drewN | apply keep_drew | apply keep_alloc | refine keep_far ?_ GW210.out _ | refine keep_far ?_ GW214.out _) | exact HK.out)) hk (.inl rfl))
            replace HB := am (hb)
            replace HI0 := am (hi)
            (try clear hb)
            (try clear hb2)
            (try clear hk)
            (try clear hi)
            (try clear ho0)
            try go_wp2
            refine ⟨rfl, ?_⟩
            exact ⟨_, by first | rfl | (refine pan_eq ?_; assumption) | (simp [errW_none, errW_some] <;> rfl) | (simp [*, errW_none, errW_some] <;> rfl), by first | exact Kd.R_nil _ _ _ _ _ | exact Kd.N_nil _ _ _ _ _ | exact Kd.V_nil _ _ _ _ _ | exact Kd.Q_nil _ _ _ _ _ | exact Kd.S_nil _ _ _ _ _, by repeat (first | (with_reducible first | exact HI0.out | apply IsS51.alloc | apply IsS51.drewN | apply IsS51.drew | apply IsS51.set_1 | refine IsS51.far ?_ NB0_210.out _ | refine IsS51.far ?_ NB0_214.out _) | exact HI0.out), by repeat (first | (with_reducible first | exact HB.out | apply below_alloc | apply pw_below_drewN | apply below_drew1 | refine below_set ?_ (IsS51.ge HI0.out) | refine below_set ?_ GE210.out | refine below_set ?_ GE214.out) | exact HB.out), by repeat (first | (with_reducible first | exact HK.out | apply KeepBut.set_ | apply keep_drewN | apply keep_drew | apply keep_alloc | refine keep_far ?_ GW210.out _ | refine keep_far ?_ GW214.out _) | exact HK.out)⟩
          ·
           rw [if_neg c96] at H
           have c96b0 : decide (x64_1 < t233) = false := decide_eq_false c96
           clear c96
           simp only [Option.some.injEq, Prod.mk.injEq] at H
           obtain ⟨rfl, rfl, rfl, rfl, rfl, rfl, rfl⟩ := H
           have hnb108 := NB214_210.out
           have hnc108 := NB210_214.out
           have hnb109 := NB214_0.out
           have hnc109 := NB0_214.out
           have hcz110_0 : wr.cell? ⟨gb214, 0, none⟩ = some (.int .i64 t211) := (blk_cell BK214.out 0).trans rfl
           have hcz110_1 : wr.cell? ⟨gb214, 1, none⟩ = some (.int .i64 (wrap64 (t215))) := (blk_cell BK214.out 1).trans rfl
           have hcz110_2 : wr.cell? ⟨gb214, 2, none⟩ = some (.int .i64 0) := (blk_cell BK214.out 2).trans rfl
           have hcz110_3 : wr.cell? ⟨gb214, 3, none⟩ = some (.string (⟨#[]⟩ : ByteArray)) := (blk_cell BK214.out 3).trans rfl
           have hcz110_4 : wr.cell? ⟨gb214, 4, none⟩ = some (u215004) := (blk_cell BK214.out 4).trans rfl
           have hfz110_0 := blk_frozen BK214.out 0
           have hfz110_1 := blk_frozen BK214.out 1
           have hfz110_2 := blk_frozen BK214.out 2
           have hfz110_3 := blk_frozen BK214.out 3
           have hfz110_4 := blk_frozen BK214.out 4
           have hnb111 := NB210_0.out
           have hnc111 := NB0_210.out
           have hcz112_0 : wr.cell? ⟨gb210, 0, none⟩ = some (.int .i64 0) := (blk_cell BK210.out 0).trans rfl
           have hcz112_1 : wr.cell? ⟨gb210, 1, none⟩ = some (.int .i64 0) := (blk_cell BK210.out 1).trans rfl
           have hcz112_2 : wr.cell? ⟨gb210, 2, none⟩ = some (.int .i64 0) := (blk_cell BK210.out 2).trans rfl
           have hcz112_3 : wr.cell? ⟨gb210, 3, none⟩ = some (.string (⟨#[]⟩ : ByteArray)) := (blk_cell BK210.out 3).trans rfl
           have hcz112_4 : wr.cell? ⟨gb210, 4, none⟩ = some (.slice none 0 0) := (blk_cell BK210.out 4).trans rfl
           have hfz112_0 := blk_frozen BK210.out 0
           have hfz112_1 := blk_frozen BK210.out 1
           have hfz112_2 := blk_frozen BK210.out 2
           have hfz112_3 := blk_frozen BK210.out 3
           have hfz112_4 := blk_frozen BK210.out 4
           obtain ⟨Ao113, co113, eo113⟩ := Kd.R_slice HO_215004.out
           subst eo113
           go_wp2
           refine bodyPost_ret (results_cell_row rfl _ _ gb210 24 #[.int .i64 t211, .int .i64 (wrap64 (t215)), .int .i64 0, .string (⟨#[]⟩ : ByteArray), .slice Ao113 x215004_1.length co113] (0, 0) _ rfl (by (with_reducible repeat (first | refine blk_drewN ?_ _ | refine blk_drew ?_ | refine blk_alloc ?_ _)); refine blk_put (cs := #[.int .i64 t211, .int .i64 (wrap64 (t215)), .int .i64 0, .string (⟨#[]⟩ : ByteArray), .slice none 0 0]) ?_ 4 _ rfl; (with_reducible repeat (first | refine blk_drewN ?_ _ | refine blk_drew ?_ | refine blk_alloc ?_ _)); refine blk_put (cs := #[.int .i64 t211, .int .i64 (wrap64 (t215)), .int .i64 0, .string (⟨#[]⟩ : ByteArray), .slice none 0 0]) ?_ 3 _ rfl; (with_reducible repeat (first | refine blk_drewN ?_ _ | refine blk_drew ?_ | refine blk_alloc ?_ _)); refine blk_put (cs := #[.int .i64 t211, .int .i64 (wrap64 (t215)), .int .i64 0, .string (⟨#[]⟩ : ByteArray), .slice none 0 0]) ?_ 2 _ rfl; (with_reducible repeat (first | refine blk_drewN ?_ _ | refine blk_drew ?_ | refine blk_alloc ?_ _)); refine blk_put (cs := #[.int .i64 t211, .int .i64 0, .int .i64 0, .string (⟨#[]⟩ : ByteArray), .slice none 0 0]) ?_ 1 _ rfl; (with_reducible repeat (first | refine blk_drewN ?_ _ | refine blk_drew ?_ | refine blk_alloc ?_ _)); refine blk_put (cs := #[.int .i64 0, .int .i64 0, .int .i64 0, .string (⟨#[]⟩ : ByteArray), .slice none 0 0]) ?_ 0 _ rfl; (with_reducible repeat (first | refine blk_drewN ?_ _ | refine blk_drew ?_ | refine blk_alloc ?_ _)); exact BK210.out) Try.underlying24 rfl (by kernel_rfl)) rfl ?_
           exact ⟨_, by first | rfl | (refine pan_eq ?_; assumption) | (simp [errW_none, errW_some] <;> rfl) | (simp [*, errW_none, errW_some] <;> rfl), by (with_reducible repeat (first | apply Kd.R_alloc | apply Kd.R_drewN | apply Kd.R_drew)); exact Kd.R_mono (Kd.R_far (p := ⟨gb210, 4, none⟩) (Kd.R_far (p := ⟨gb210, 3, none⟩) (Kd.R_far (p := ⟨gb210, 2, none⟩) (Kd.R_far (p := ⟨gb210, 1, none⟩) (Kd.R_far (p := ⟨gb210, 0, none⟩) (Kd.R_mono HO_215004.out (fun k_ hk => (⟨hk, hk.1⟩ : _ ∧ k_ ≠ gb210))) (fun _ hk => hk.2) (.int .i64 t211)) (fun _ hk => hk.2) (.int .i64 (wrap64 (t215)))) (fun _ hk => hk.2) (.int .i64 0)) (fun _ hk => hk.2) (.string (⟨#[]⟩ : ByteArray))) (fun _ hk => hk.2) (.slice Ao113 x215004_1.length co113)) (fun _ hk => trivial), by repeat (first | (with_reducible first | exact HI0.out | apply IsS51.alloc | apply IsS51.drewN | apply IsS51.drew | apply IsS51.set_1 | refine IsS51.far ?_ NB0_210.out _ | refine IsS51.far ?_ NB0_214.out _) | exact HI0.out), by repeat (first | (with_reducible first | exact HB.out | apply below_alloc | apply pw_below_drewN | apply below_drew1 | refine below_set ?_ (IsS51.ge HI0.out) | refine below_set ?_ GE210.out | refine below_set ?_ GE214.out) | exact HB.out), by repeat (first | (with_reducible first | exact HK.out | apply KeepBut.set_ | apply keep_drewN | apply keep_drew | apply keep_alloc | refine keep_far ?_ GW210.out _ | refine keep_far ?_ GW214.out _) | exact HK.out)⟩
       ·
        rw [if_neg c86] at H
        have c86b0 : (t235 == 0) = false := beq_eq_false_iff_ne.mpr c86
        have c86b1 : (t235 != 0) = true := bne_iff_ne.mpr c86
        simp only [Option.some.injEq, Prod.mk.injEq] at H
        obtain ⟨rfl, rfl, rfl, rfl, rfl, rfl, rfl⟩ := H
        go_enter Try.func24, Try.ntmps24
        go_wp2_with (first | ((with_reducible refine gate_dst (N := 4) rfl ?_); refine box_event ?hg (N := 4) ?hd (cs := #[.int .i64 0, .int .i64 0, .int .i64 0, .string (⟨#[]⟩ : ByteArray), .slice none 0 0]) (t := 24) ?hr ?_; (case hd => rfl); (case hg => rfl); (case hr => exact gz); intro gb210 hg w114 hbox hb; replace HB := am (below_step (by repeat (first | (with_reducible first | exact HB.out | apply below_alloc | apply pw_below_drewN | apply below_drew1 | refine below_set ?_ (IsS51.ge HI0.out)) | exact HB.out)) hb); have BK210 := am (hbox); have GW210 := am ((by rw [hg]; exact (keep_size (w := w) (g := g) (row := none) (by repeat (first | (with_reducible first | exact HK.out | apply KeepBut.set_ | apply keep_drewN | apply keep_drew | apply keep_alloc) | exact HK.out))) : w.heap.size ≤ gb210)); have GE210 := am ((Nat.le_trans HW0.out (by rw [hg]; exact (keep_size (w := w) (g := g) (row := none) (by repeat (first | (with_reducible first | exact HK.out | apply KeepBut.set_ | apply keep_drewN | apply keep_drew | apply keep_alloc) | exact HK.out))) : w.heap.size ≤ gb210) : w0.heap.size ≤ gb210)); replace HK := am (KeepBut.trans (by repeat (first | (with_reducible first | exact HK.out | apply KeepBut.set_ | apply keep_drewN | apply keep_drew | apply keep_alloc) | exact HK.out)) (KeepBut.of_below hb g none) (.inl rfl)); have NB0_210 := am ((by rw [hg]; exact Nat.ne_of_lt (IsS51.lt (show IsS51 w0 _ g s0_0 s0_1 from by repeat (first | (with_reducible first | exact HI0.out | apply IsS51.alloc | apply IsS51.drewN | apply IsS51.drew | apply IsS51.set_1) | exact HI0.out))) : g ≠ gb210)); have NB210_0 := am ((by rw [hg]; exact Nat.ne_of_gt (IsS51.lt (show IsS51 w0 _ g s0_0 s0_1 from by repeat (first | (with_reducible first | exact HI0.out | apply IsS51.alloc | apply IsS51.drewN | apply IsS51.drew | apply IsS51.set_1) | exact HI0.out))) : gb210 ≠ g)); replace HI0 := am (IsS51.below (by repeat (first | (with_reducible first | exact HI0.out | apply IsS51.alloc | apply IsS51.drewN | apply IsS51.drew | apply IsS51.set_1) | exact HI0.out)) hb); clear hb hbox hg) | ((with_reducible refine gate_callee (f := 30) rfl ?_); refine goesLP_ (some 15) rfl rfl Try.func30 (by kernel_rfl) rfl #[.pointer (some ⟨g, 0, none⟩), .int .u64 9999999, .int .i64 3] rfl lz ?_; (with_reducible refine (codec_decoder_limited.calls k g s0_0 s0_1 9999999 3 t211 t212 t213 w0 _ ?side1 ?side2 A5.out).mono ?_); (case side1 => repeat (first | (with_reducible first | exact HI0.out | apply IsS51.alloc | apply IsS51.drewN | apply IsS51.drew | apply IsS51.set_1 | refine IsS51.far ?_ NB0_210.out _) | exact HI0.out)); (case side2 => repeat (first | (with_reducible first | exact HB.out | apply below_alloc | apply pw_below_drewN | apply below_drew1 | refine below_set ?_ (IsS51.ge HI0.out) | refine below_set ?_ GE210.out) | exact HB.out)); rintro e w115 ⟨he_, hi, hb, hk⟩; (first | (refine zero_ he_ ?hz_ ?_; (case hz_ => (with_reducible assumption))) | (refine pan_ he_ ?hz_ ?_; (case hz_ => (with_reducible assumption)))); replace BK210 := am (KeepBut.blk hk (g' := gb210) (o := .cells #[.int .i64 0, .int .i64 0, .int .i64 0, .string (⟨#[]⟩ : ByteArray), .slice none 0 0] 24 (0, 0)) (bz BK210.out) NB210_0.out (by simp)); replace HK := am (KeepBut.trans (by repeat (first | (with_reducible first | exact HK.out | apply KeepBut.set_ | apply keep_drewN | apply keep_drew | apply keep_alloc | refine keep_far ?_ GW210.out _) | exact HK.out)) hk (.inl rfl)); replace HB := am (hb); replace HI0 := am (hi); (try clear hb); (try clear hb2); (try clear hk); (try clear hi)) | ((with_reducible refine gate_dst (N := 5) rfl ?_); refine box_event ?hg (N := 5) ?hd (cs := #[.int .i64 0, .int .i64 0, .int .i64 0, .string (⟨#[]⟩ : ByteArray), .slice none 0 0]) (t := 24) ?hr ?_; (case hd => rfl); (case hg => rfl); (case hr => exact gz); intro gb214 hg w116 hbox hb; replace HB := am (below_step (by repeat (first | (with_reducible first | exact HB.out | apply below_alloc | apply pw_below_drewN | apply below_drew1 | refine below_set ?_ (IsS51.ge HI0.out) | refine below_set ?_ GE210.out) | exact HB.out)) hb); have BK214 := am (hbox); have GW214 := am ((by rw [hg]; exact (keep_size (w := w) (g := g) (row := none) (by repeat (first | (with_reducible first | exact HK.out | apply KeepBut.set_ | apply keep_drewN | apply keep_drew | apply keep_alloc | refine keep_far ?_ GW210.out _) | exact HK.out))) : w.heap.size ≤ gb214)); have GE214 := am ((Nat.le_trans HW0.out (by rw [hg]; exact (keep_size (w := w) (g := g) (row := none) (by repeat (first | (with_reducible first | exact HK.out | apply KeepBut.set_ | apply keep_drewN | apply keep_drew | apply keep_alloc | refine keep_far ?_ GW210.out _) | exact HK.out))) : w.heap.size ≤ gb214) : w0.heap.size ≤ gb214)); replace HK := am (KeepBut.trans (by repeat (first | (with_reducible first | exact HK.out | apply KeepBut.set_ | apply keep_drewN | apply keep_drew | apply keep_alloc | refine keep_far ?_ GW210.out _) | exact HK.out)) (KeepBut.of_below hb g none) (.inl rfl)); have NB210_214 := am ((by rw [hg]; exact Nat.ne_of_lt (blk_lt (g := gb210) (o := .cells #[.int .i64 0, .int .i64 0, .int .i64 0, .string (⟨#[]⟩ : ByteArray), .slice none 0 0] 24 (0, 0)) (bz BK210.out)) : gb210 ≠ gb214)); have NB214_210 := am ((by rw [hg]; exact Nat.ne_of_gt (blk_lt (g := gb210) (o := .cells #[.int .i64 0, .int .i64 0, .int .i64 0, .string (⟨#[]⟩ : ByteArray), .slice none 0 0] 24 (0, 0)) (bz BK210.out)) : gb214 ≠ gb210)); replace BK210 := am (blk_below (g := gb210) (o := .cells #[.int .i64 0, .int .i64 0, .int .i64 0, .string (⟨#[]⟩ : ByteArray), .slice none 0 0] 24 (0, 0)) (bz BK210.out) hb); have NB0_214 := am ((by rw [hg]; exact Nat.ne_of_lt (IsS51.lt (show IsS51 w0 _ g s0_0 t212 from by repeat (first | (with_reducible first | exact HI0.out | apply IsS51.alloc | apply IsS51.drewN | apply IsS51.drew | apply IsS51.set_1 | refine IsS51.far ?_ NB0_210.out _) | exact HI0.out))) : g ≠ gb214)); have NB214_0 := am ((by rw [hg]; exact Nat.ne_of_gt (IsS51.lt (show IsS51 w0 _ g s0_0 t212 from by repeat (first | (with_reducible first | exact HI0.out | apply IsS51.alloc | apply IsS51.drewN | apply IsS51.drew | apply IsS51.set_1 | refine IsS51.far ?_ NB0_210.out _) | exact HI0.out))) : gb214 ≠ g)); replace HI0 := am (IsS51.below (by repeat (first | (with_reducible first | exact HI0.out | apply IsS51.alloc | apply IsS51.drewN | apply IsS51.drew | apply IsS51.set_1 | refine IsS51.far ?_ NB0_210.out _) | exact HI0.out)) hb); clear hb hbox hg; have hnb117 := NB214_210.out; have hnc117 := NB210_214.out; have hnb118 := NB214_0.out; have hnc118 := NB0_214.out; obtain ⟨hcz119_0, hcz119_1, hcz119_2, hcz119_3, hcz119_4⟩ := cs5 BK214.out; obtain ⟨hfz119_0, hfz119_1, hfz119_2, hfz119_3, hfz119_4⟩ := fs5 BK214.out) | ((with_reducible refine gate_callee (f := 31) rfl ?_); refine goesLP_ (some 18) rfl rfl Try.func31 (by kernel_rfl) rfl #[.pointer (some ⟨g, 0, none⟩)] rfl lz ?_; (with_reducible refine (codec_decoder_next.calls g s0_0 t212 t215 t216 t217 w0 _ ?side1 ?side2 A7.out).mono ?_); (case side1 => repeat (first | (with_reducible first | exact HI0.out | apply IsS51.alloc | apply IsS51.drewN | apply IsS51.drew | apply IsS51.set_1 | refine IsS51.far ?_ NB0_210.out _ | refine IsS51.far ?_ NB0_214.out _) | exact HI0.out)); (case side2 => repeat (first | (with_reducible first | exact HB.out | apply below_alloc | apply pw_below_drewN | apply below_drew1 | refine below_set ?_ (IsS51.ge HI0.out) | refine below_set ?_ GE210.out | refine below_set ?_ GE214.out) | exact HB.out)); rintro e w120 ⟨he_, hi, hb, hk⟩; (first | (refine zero_ he_ ?hz_ ?_; (case hz_ => (with_reducible assumption))) | (refine pan_ he_ ?hz_ ?_; (case hz_ => (with_reducible assumption)))); replace BK210 := am (KeepBut.blk hk (g' := gb210) (o := .cells #[.int .i64 0, .int .i64 0, .int .i64 0, .string (⟨#[]⟩ : ByteArray), .slice none 0 0] 24 (0, 0)) (bf1 NB210_214.out BK210.out) NB210_0.out (by simp)); replace BK214 := am (KeepBut.blk hk (g' := gb214) (o := .cells #[.int .i64 t211, .int .i64 0, .int .i64 0, .string (⟨#[]⟩ : ByteArray), .slice none 0 0] 24 (0, 0)) (by (with_reducible repeat (first | refine blk_drewN ?_ _ | refine blk_drew ?_ | refine blk_alloc ?_ _)); refine blk_put (cs := #[.int .i64 t211, .int .i64 0, .int .i64 0, .string (⟨#[]⟩ : ByteArray), .slice none 0 0]) ?_ 4 _ rfl; (with_reducible repeat (first | refine blk_drewN ?_ _ | refine blk_drew ?_ | refine blk_alloc ?_ _)); refine blk_put (cs := #[.int .i64 t211, .int .i64 0, .int .i64 0, .string (⟨#[]⟩ : ByteArray), .slice none 0 0]) ?_ 3 _ rfl; (with_reducible repeat (first | refine blk_drewN ?_ _ | refine blk_drew ?_ | refine blk_alloc ?_ _)); refine blk_put (cs := #[.int .i64 t211, .int .i64 0, .int .i64 0, .string (⟨#[]⟩ : ByteArray), .slice none 0 0]) ?_ 2 _ rfl; (with_reducible repeat (first | refine blk_drewN ?_ _ | refine blk_drew ?_ | refine blk_alloc ?_ _)); refine blk_put (cs := #[.int .i64 t211, .int .i64 0, .int .i64 0, .string (⟨#[]⟩ : ByteArray), .slice none 0 0]) ?_ 1 _ rfl; (with_reducible repeat (first | refine blk_drewN ?_ _ | refine blk_drew ?_ | refine blk_alloc ?_ _)); refine blk_put (cs := #[.int .i64 0, .int .i64 0, .int .i64 0, .string (⟨#[]⟩ : ByteArray), .slice none 0 0]) ?_ 0 _ rfl; (with_reducible repeat (first | refine blk_drewN ?_ _ | refine blk_drew ?_ | refine blk_alloc ?_ _)); exact BK214.out) NB214_0.out (by simp)); replace HK := am (KeepBut.trans (by repeat (first | (with_reducible first | exact HK.out | apply KeepBut.set_ | apply keep_drewN | apply keep_drew | apply keep_alloc | refine keep_far ?_ GW210.out _ | refine keep_far ?_ GW214.out _) | exact HK.out)) hk (.inl rfl)); replace HB := am (hb); replace HI0 := am (hi); (try clear hb); (try clear hb2); (try clear hk); (try clear hi); obtain ⟨hcz121_0, hcz121_1, hcz121_2, hcz121_3, hcz121_4⟩ := cs5 BK214.out; obtain ⟨hfz121_0, hfz121_1, hfz121_2, hfz121_3, hfz121_4⟩ := fs5 BK214.out) | ((with_reducible refine gate_callee (f := 30) rfl ?_); refine goesLP_ (some 62) rfl rfl Try.func30 (by kernel_rfl) rfl #[.pointer (some ⟨g, 0, none⟩), .int .u64 1024, .int .i64 5] rfl lz ?_; (with_reducible refine (codec_decoder_limited.calls k g s0_0 t216 1024 5 t233 t234 t235 w0 _ ?side1 ?side2 A85.out).mono ?_); (case side1 => repeat (first | (with_reducible first | exact HI0.out | apply IsS51.alloc | apply IsS51.drewN | apply IsS51.drew | apply IsS51.set_1 | refine IsS51.far ?_ NB0_210.out _ | refine IsS51.far ?_ NB0_214.out _) | exact HI0.out)); (case side2 => repeat (first | (with_reducible first | exact HB.out | apply below_alloc | apply pw_below_drewN | apply below_drew1 | refine below_set ?_ (IsS51.ge HI0.out) | refine below_set ?_ GE210.out | refine below_set ?_ GE214.out) | exact HB.out)); rintro e w122 ⟨he_, hi, hb, hk⟩; (first | (refine zero_ he_ ?hz_ ?_; (case hz_ => (with_reducible assumption))) | (refine pan_ he_ ?hz_ ?_; (case hz_ => (with_reducible assumption)))); replace BK210 := am (KeepBut.blk hk (g' := gb210) (o := .cells #[.int .i64 0, .int .i64 0, .int .i64 0, .string (⟨#[]⟩ : ByteArray), .slice none 0 0] 24 (0, 0)) (bf1 NB210_214.out BK210.out) NB210_0.out (by simp)); replace BK214 := am (KeepBut.blk hk (g' := gb214) (o := .cells #[.int .i64 t211, .int .i64 (wrap64 (t215)), .int .i64 0, .string (⟨#[]⟩ : ByteArray), .slice none 0 0] 24 (0, 0)) (by (with_reducible repeat (first | refine blk_drewN ?_ _ | refine blk_drew ?_ | refine blk_alloc ?_ _)); refine blk_put (cs := #[.int .i64 t211, .int .i64 0, .int .i64 0, .string (⟨#[]⟩ : ByteArray), .slice none 0 0]) ?_ 1 _ rfl; (with_reducible repeat (first | refine blk_drewN ?_ _ | refine blk_drew ?_ | refine blk_alloc ?_ _)); exact BK214.out) NB214_0.out (by simp)); replace HK := am (KeepBut.trans (by repeat (first | (with_reducible first | exact HK.out | apply KeepBut.set_ | apply keep_drewN | apply keep_drew | apply keep_alloc | refine keep_far ?_ GW210.out _ | refine keep_far ?_ GW214.out _) | exact HK.out)) hk (.inl rfl)); replace HB := am (hb); replace HI0 := am (hi); (try clear hb); (try clear hb2); (try clear hk); (try clear hi)))
        refine ⟨rfl, ?_⟩
        exact ⟨_, by first | rfl | (refine pan_eq ?_; assumption) | (simp [errW_none, errW_some] <;> rfl) | (simp [*, errW_none, errW_some] <;> rfl), by first | exact Kd.R_nil _ _ _ _ _ | exact Kd.N_nil _ _ _ _ _ | exact Kd.V_nil _ _ _ _ _ | exact Kd.Q_nil _ _ _ _ _ | exact Kd.S_nil _ _ _ _ _, by repeat (first | (with_reducible first | exact HI0.out | apply IsS51.alloc | apply IsS51.drewN | apply IsS51.drew | apply IsS51.set_1 | refine IsS51.far ?_ NB0_210.out _ | refine IsS51.far ?_ NB0_214.out _) | exact HI0.out), by repeat (first | (with_reducible first | exact HB.out | apply below_alloc | apply pw_below_drewN | apply below_drew1 | refine below_set ?_ (IsS51.ge HI0.out) | refine below_set ?_ GE210.out | refine below_set ?_ GE214.out) | exact HB.out), by repeat (first | (with_reducible first | exact HK.out | apply KeepBut.set_ | apply keep_drewN | apply keep_drew | apply keep_alloc | refine keep_far ?_ GW210.out _ | refine keep_far ?_ GW214.out _) | exact HK.out)⟩
      ·
       rw [if_neg c84] at H
       have c84b0 : ((wrap64 (t215)) == 3) = false := beq_eq_false_iff_ne.mpr c84
       have c84b1 : ((wrap64 (t215)) != 3) = true := bne_iff_ne.mpr c84
       simp only [Option.some.injEq, Prod.mk.injEq] at H
       obtain ⟨rfl, rfl, rfl, rfl, rfl, rfl, rfl⟩ := H
       go_enter Try.func24, Try.ntmps24
       go_wp2_with (first | ((with_reducible refine gate_dst (N := 4) rfl ?_); refine box_event ?hg (N := 4) ?hd (cs := #[.int .i64 0, .int .i64 0, .int .i64 0, .string (⟨#[]⟩ : ByteArray), .slice none 0 0]) (t := 24) ?hr ?_; (case hd => rfl); (case hg => rfl); (case hr => exact gz); intro gb210 hg w123 hbox hb; replace HB := am (below_step (by repeat (first | (with_reducible first | exact HB.out | apply below_alloc | apply pw_below_drewN | apply below_drew1 | refine below_set ?_ (IsS51.ge HI0.out)) | exact HB.out)) hb); have BK210 := am (hbox); have GW210 := am ((by rw [hg]; exact (keep_size (w := w) (g := g) (row := none) (by repeat (first | (with_reducible first | exact HK.out | apply KeepBut.set_ | apply keep_drewN | apply keep_drew | apply keep_alloc) | exact HK.out))) : w.heap.size ≤ gb210)); have GE210 := am ((Nat.le_trans HW0.out (by rw [hg]; exact (keep_size (w := w) (g := g) (row := none) (by repeat (first | (with_reducible first | exact HK.out | apply KeepBut.set_ | apply keep_drewN | apply keep_drew | apply keep_alloc) | exact HK.out))) : w.heap.size ≤ gb210) : w0.heap.size ≤ gb210)); replace HK := am (KeepBut.trans (by repeat (first | (with_reducible first | exact HK.out | apply KeepBut.set_ | apply keep_drewN | apply keep_drew | apply keep_alloc) | exact HK.out)) (KeepBut.of_below hb g none) (.inl rfl)); have NB0_210 := am ((by rw [hg]; exact Nat.ne_of_lt (IsS51.lt (show IsS51 w0 _ g s0_0 s0_1 from by repeat (first | (with_reducible first | exact HI0.out | apply IsS51.alloc | apply IsS51.drewN | apply IsS51.drew | apply IsS51.set_1) | exact HI0.out))) : g ≠ gb210)); have NB210_0 := am ((by rw [hg]; exact Nat.ne_of_gt (IsS51.lt (show IsS51 w0 _ g s0_0 s0_1 from by repeat (first | (with_reducible first | exact HI0.out | apply IsS51.alloc | apply IsS51.drewN | apply IsS51.drew | apply IsS51.set_1) | exact HI0.out))) : gb210 ≠ g)); replace HI0 := am (IsS51.below (by repeat (first | (with_reducible first | exact HI0.out | apply IsS51.alloc | apply IsS51.drewN | apply IsS51.drew | apply IsS51.set_1) | exact HI0.out)) hb); clear hb hbox hg) | ((with_reducible refine gate_callee (f := 30) rfl ?_); refine goesLP_ (some 15) rfl rfl Try.func30 (by kernel_rfl) rfl #[.pointer (some ⟨g, 0, none⟩), .int .u64 9999999, .int .i64 3] rfl lz ?_; (with_reducible refine (codec_decoder_limited.calls k g s0_0 s0_1 9999999 3 t211 t212 t213 w0 _ ?side1 ?side2 A5.out).mono ?_); (case side1 => repeat (first | (with_reducible first | exact HI0.out | apply IsS51.alloc | apply IsS51.drewN | apply IsS51.drew | apply IsS51.set_1 | refine IsS51.far ?_ NB0_210.out _) | exact HI0.out)); (case side2 => repeat (first | (with_reducible first | exact HB.out | apply below_alloc | apply pw_below_drewN | apply below_drew1 | refine below_set ?_ (IsS51.ge HI0.out) | refine below_set ?_ GE210.out) | exact HB.out)); rintro e w124 ⟨he_, hi, hb, hk⟩; (first | (refine zero_ he_ ?hz_ ?_; (case hz_ => (with_reducible assumption))) | (refine pan_ he_ ?hz_ ?_; (case hz_ => (with_reducible assumption)))); replace BK210 := am (KeepBut.blk hk (g' := gb210) (o := .cells #[.int .i64 0, .int .i64 0, .int .i64 0, .string (⟨#[]⟩ : ByteArray), .slice none 0 0] 24 (0, 0)) (bz BK210.out) NB210_0.out (by simp)); replace HK := am (KeepBut.trans (by repeat (first | (with_reducible first | exact HK.out | apply KeepBut.set_ | apply keep_drewN | apply keep_drew | apply keep_alloc | refine keep_far ?_ GW210.out _) | exact HK.out)) hk (.inl rfl)); replace HB := am (hb); replace HI0 := am (hi); (try clear hb); (try clear hb2); (try clear hk); (try clear hi)) | ((with_reducible refine gate_dst (N := 5) rfl ?_); refine box_event ?hg (N := 5) ?hd (cs := #[.int .i64 0, .int .i64 0, .int .i64 0, .string (⟨#[]⟩ : ByteArray), .slice none 0 0]) (t := 24) ?hr ?_; (case hd => rfl); (case hg => rfl); (case hr => exact gz); intro gb214 hg w125 hbox hb; replace HB := am (below_step (by repeat (first | (with_reducible first | exact HB.out | apply below_alloc | apply pw_below_drewN | apply below_drew1 | refine below_set ?_ (IsS51.ge HI0.out) | refine below_set ?_ GE210.out) | exact HB.out)) hb); have BK214 := am (hbox); have GW214 := am ((by rw [hg]; exact (keep_size (w := w) (g := g) (row := none) (by repeat (first | (with_reducible first | exact HK.out | apply KeepBut.set_ | apply keep_drewN | apply keep_drew | apply keep_alloc | refine keep_far ?_ GW210.out _) | exact HK.out))) : w.heap.size ≤ gb214)); have GE214 := am ((Nat.le_trans HW0.out (by rw [hg]; exact (keep_size (w := w) (g := g) (row := none) (by repeat (first | (with_reducible first | exact HK.out | apply KeepBut.set_ | apply keep_drewN | apply keep_drew | apply keep_alloc | refine keep_far ?_ GW210.out _) | exact HK.out))) : w.heap.size ≤ gb214) : w0.heap.size ≤ gb214)); replace HK := am (KeepBut.trans (by repeat (first | (with_reducible first | exact HK.out | apply KeepBut.set_ | apply keep_drewN | apply keep_drew | apply keep_alloc | refine keep_far ?_ GW210.out _) | exact HK.out)) (KeepBut.of_below hb g none) (.inl rfl)); have NB210_214 := am ((by rw [hg]; exact Nat.ne_of_lt (blk_lt (g := gb210) (o := .cells #[.int .i64 0, .int .i64 0, .int .i64 0, .string (⟨#[]⟩ : ByteArray), .slice none 0 0] 24 (0, 0)) (bz BK210.out)) : gb210 ≠ gb214)); have NB214_210 := am ((by rw [hg]; exact Nat.ne_of_gt (blk_lt (g := gb210) (o := .cells #[.int .i64 0, .int .i64 0, .int .i64 0, .string (⟨#[]⟩ : ByteArray), .slice none 0 0] 24 (0, 0)) (bz BK210.out)) : gb214 ≠ gb210)); replace BK210 := am (blk_below (g := gb210) (o := .cells #[.int .i64 0, .int .i64 0, .int .i64 0, .string (⟨#[]⟩ : ByteArray), .slice none 0 0] 24 (0, 0)) (bz BK210.out) hb); have NB0_214 := am ((by rw [hg]; exact Nat.ne_of_lt (IsS51.lt (show IsS51 w0 _ g s0_0 t212 from by repeat (first | (with_reducible first | exact HI0.out | apply IsS51.alloc | apply IsS51.drewN | apply IsS51.drew | apply IsS51.set_1 | refine IsS51.far ?_ NB0_210.out _) | exact HI0.out))) : g ≠ gb214)); have NB214_0 := am ((by rw [hg]; exact Nat.ne_of_gt (IsS51.lt (show IsS51 w0 _ g s0_0 t212 from by repeat (first | (with_reducible first | exact HI0.out | apply IsS51.alloc | apply IsS51.drewN | apply IsS51.drew | apply IsS51.set_1 | refine IsS51.far ?_ NB0_210.out _) | exact HI0.out))) : gb214 ≠ g)); replace HI0 := am (IsS51.below (by repeat (first | (with_reducible first | exact HI0.out | apply IsS51.alloc | apply IsS51.drewN | apply IsS51.drew | apply IsS51.set_1 | refine IsS51.far ?_ NB0_210.out _) | exact HI0.out)) hb); clear hb hbox hg; have hnb126 := NB214_210.out; have hnc126 := NB210_214.out; have hnb127 := NB214_0.out; have hnc127 := NB0_214.out; obtain ⟨hcz128_0, hcz128_1, hcz128_2, hcz128_3, hcz128_4⟩ := cs5 BK214.out; obtain ⟨hfz128_0, hfz128_1, hfz128_2, hfz128_3, hfz128_4⟩ := fs5 BK214.out) | ((with_reducible refine gate_callee (f := 31) rfl ?_); refine goesLP_ (some 18) rfl rfl Try.func31 (by kernel_rfl) rfl #[.pointer (some ⟨g, 0, none⟩)] rfl lz ?_; (with_reducible refine (codec_decoder_next.calls g s0_0 t212 t215 t216 t217 w0 _ ?side1 ?side2 A7.out).mono ?_); (case side1 => repeat (first | (with_reducible first | exact HI0.out | apply IsS51.alloc | apply IsS51.drewN | apply IsS51.drew | apply IsS51.set_1 | refine IsS51.far ?_ NB0_210.out _ | refine IsS51.far ?_ NB0_214.out _) | exact HI0.out)); (case side2 => repeat (first | (with_reducible first | exact HB.out | apply below_alloc | apply pw_below_drewN | apply below_drew1 | refine below_set ?_ (IsS51.ge HI0.out) | refine below_set ?_ GE210.out | refine below_set ?_ GE214.out) | exact HB.out)); rintro e w129 ⟨he_, hi, hb, hk⟩; (first | (refine zero_ he_ ?hz_ ?_; (case hz_ => (with_reducible assumption))) | (refine pan_ he_ ?hz_ ?_; (case hz_ => (with_reducible assumption)))); replace BK210 := am (KeepBut.blk hk (g' := gb210) (o := .cells #[.int .i64 0, .int .i64 0, .int .i64 0, .string (⟨#[]⟩ : ByteArray), .slice none 0 0] 24 (0, 0)) (bf1 NB210_214.out BK210.out) NB210_0.out (by simp)); replace BK214 := am (KeepBut.blk hk (g' := gb214) (o := .cells #[.int .i64 t211, .int .i64 0, .int .i64 0, .string (⟨#[]⟩ : ByteArray), .slice none 0 0] 24 (0, 0)) (by (with_reducible repeat (first | refine blk_drewN ?_ _ | refine blk_drew ?_ | refine blk_alloc ?_ _)); refine blk_put (cs := #[.int .i64 t211, .int .i64 0, .int .i64 0, .string (⟨#[]⟩ : ByteArray), .slice none 0 0]) ?_ 4 _ rfl; (with_reducible repeat (first | refine blk_drewN ?_ _ | refine blk_drew ?_ | refine blk_alloc ?_ _)); refine blk_put (cs := #[.int .i64 t211, .int .i64 0, .int .i64 0, .string (⟨#[]⟩ : ByteArray), .slice none 0 0]) ?_ 3 _ rfl; (with_reducible repeat (first | refine blk_drewN ?_ _ | refine blk_drew ?_ | refine blk_alloc ?_ _)); refine blk_put (cs := #[.int .i64 t211, .int .i64 0, .int .i64 0, .string (⟨#[]⟩ : ByteArray), .slice none 0 0]) ?_ 2 _ rfl; (with_reducible repeat (first | refine blk_drewN ?_ _ | refine blk_drew ?_ | refine blk_alloc ?_ _)); refine blk_put (cs := #[.int .i64 t211, .int .i64 0, .int .i64 0, .string (⟨#[]⟩ : ByteArray), .slice none 0 0]) ?_ 1 _ rfl; (with_reducible repeat (first | refine blk_drewN ?_ _ | refine blk_drew ?_ | refine blk_alloc ?_ _)); refine blk_put (cs := #[.int .i64 0, .int .i64 0, .int .i64 0, .string (⟨#[]⟩ : ByteArray), .slice none 0 0]) ?_ 0 _ rfl; (with_reducible repeat (first | refine blk_drewN ?_ _ | refine blk_drew ?_ | refine blk_alloc ?_ _)); exact BK214.out) NB214_0.out (by simp)); replace HK := am (KeepBut.trans (by repeat (first | (with_reducible first | exact HK.out | apply KeepBut.set_ | apply keep_drewN | apply keep_drew | apply keep_alloc | refine keep_far ?_ GW210.out _ | refine keep_far ?_ GW214.out _) | exact HK.out)) hk (.inl rfl)); replace HB := am (hb); replace HI0 := am (hi); (try clear hb); (try clear hb2); (try clear hk); (try clear hi); obtain ⟨hcz130_0, hcz130_1, hcz130_2, hcz130_3, hcz130_4⟩ := cs5 BK214.out; obtain ⟨hfz130_0, hfz130_1, hfz130_2, hfz130_3, hfz130_4⟩ := fs5 BK214.out))
       refine ⟨rfl, ?_⟩
       exact ⟨_, by first | rfl | (refine pan_eq ?_; assumption) | (simp [errW_none, errW_some] <;> rfl) | (simp [*, errW_none, errW_some] <;> rfl), by first | exact Kd.R_nil _ _ _ _ _ | exact Kd.N_nil _ _ _ _ _ | exact Kd.V_nil _ _ _ _ _ | exact Kd.Q_nil _ _ _ _ _ | exact Kd.S_nil _ _ _ _ _, by repeat (first | (with_reducible first | exact HI0.out | apply IsS51.alloc | apply IsS51.drewN | apply IsS51.drew | apply IsS51.set_1 | refine IsS51.far ?_ NB0_210.out _ | refine IsS51.far ?_ NB0_214.out _) | exact HI0.out), by repeat (first | (with_reducible first | exact HB.out | apply below_alloc | apply pw_below_drewN | apply below_drew1 | refine below_set ?_ (IsS51.ge HI0.out) | refine below_set ?_ GE210.out | refine below_set ?_ GE214.out) | exact HB.out), by repeat (first | (with_reducible first | exact HK.out | apply KeepBut.set_ | apply keep_drewN | apply keep_drew | apply keep_alloc | refine keep_far ?_ GW210.out _ | refine keep_far ?_ GW214.out _) | exact HK.out)⟩
   ·
    rw [if_neg c8] at H
    have c8b0 : (t217 == 0) = false := beq_eq_false_iff_ne.mpr c8
    have c8b1 : (t217 != 0) = true := bne_iff_ne.mpr c8
    simp only [Option.some.injEq, Prod.mk.injEq] at H
    obtain ⟨rfl, rfl, rfl, rfl, rfl, rfl, rfl⟩ := H
    go_enter Try.func24, Try.ntmps24
    go_wp2_with (first | ((with_reducible refine gate_dst (N := 4) rfl ?_); refine box_event ?hg (N := 4) ?hd (cs := #[.int .i64 0, .int .i64 0, .int .i64 0, .string (⟨#[]⟩ : ByteArray), .slice none 0 0]) (t := 24) ?hr ?_; (case hd => rfl); (case hg => rfl); (case hr => exact gz); intro gb210 hg w131 hbox hb; replace HB := am (below_step (by repeat (first | (with_reducible first | exact HB.out | apply below_alloc | apply pw_below_drewN | apply below_drew1 | refine below_set ?_ (IsS51.ge HI0.out)) | exact HB.out)) hb); have BK210 := am (hbox); have GW210 := am ((by rw [hg]; exact (keep_size (w := w) (g := g) (row := none) (by repeat (first | (with_reducible first | exact HK.out | apply KeepBut.set_ | apply keep_drewN | apply keep_drew | apply keep_alloc) | exact HK.out))) : w.heap.size ≤ gb210)); have GE210 := am ((Nat.le_trans HW0.out (by rw [hg]; exact (keep_size (w := w) (g := g) (row := none) (by repeat (first | (with_reducible first | exact HK.out | apply KeepBut.set_ | apply keep_drewN | apply keep_drew | apply keep_alloc) | exact HK.out))) : w.heap.size ≤ gb210) : w0.heap.size ≤ gb210)); replace HK := am (KeepBut.trans (by repeat (first | (with_reducible first | exact HK.out | apply KeepBut.set_ | apply keep_drewN | apply keep_drew | apply keep_alloc) | exact HK.out)) (KeepBut.of_below hb g none) (.inl rfl)); have NB0_210 := am ((by rw [hg]; exact Nat.ne_of_lt (IsS51.lt (show IsS51 w0 _ g s0_0 s0_1 from by repeat (first | (with_reducible first | exact HI0.out | apply IsS51.alloc | apply IsS51.drewN | apply IsS51.drew | apply IsS51.set_1) | exact HI0.out))) : g ≠ gb210)); have NB210_0 := am ((by rw [hg]; exact Nat.ne_of_gt (IsS51.lt (show IsS51 w0 _ g s0_0 s0_1 from by repeat (first | (with_reducible first | exact HI0.out | apply IsS51.alloc | apply IsS51.drewN | apply IsS51.drew | apply IsS51.set_1) | exact HI0.out))) : gb210 ≠ g)); replace HI0 := am (IsS51.below (by repeat (first | (with_reducible first | exact HI0.out | apply IsS51.alloc | apply IsS51.drewN | apply IsS51.drew | apply IsS51.set_1) | exact HI0.out)) hb); clear hb hbox hg) | ((with_reducible refine gate_callee (f := 30) rfl ?_); refine goesLP_ (some 15) rfl rfl Try.func30 (by kernel_rfl) rfl #[.pointer (some ⟨g, 0, none⟩), .int .u64 9999999, .int .i64 3] rfl lz ?_; (with_reducible refine (codec_decoder_limited.calls k g s0_0 s0_1 9999999 3 t211 t212 t213 w0 _ ?side1 ?side2 A5.out).mono ?_); (case side1 => repeat (first | (with_reducible first | exact HI0.out | apply IsS51.alloc | apply IsS51.drewN | apply IsS51.drew | apply IsS51.set_1 | refine IsS51.far ?_ NB0_210.out _) | exact HI0.out)); (case side2 => repeat (first | (with_reducible first | exact HB.out | apply below_alloc | apply pw_below_drewN | apply below_drew1 | refine below_set ?_ (IsS51.ge HI0.out) | refine below_set ?_ GE210.out) | exact HB.out)); rintro e w132 ⟨he_, hi, hb, hk⟩; (first | (refine zero_ he_ ?hz_ ?_; (case hz_ => (with_reducible assumption))) | (refine pan_ he_ ?hz_ ?_; (case hz_ => (with_reducible assumption)))); replace BK210 := am (KeepBut.blk hk (g' := gb210) (o := .cells #[.int .i64 0, .int .i64 0, .int .i64 0, .string (⟨#[]⟩ : ByteArray), .slice none 0 0] 24 (0, 0)) (bz BK210.out) NB210_0.out (by simp)); replace HK := am (KeepBut.trans (by repeat (first | (with_reducible first | exact HK.out | apply KeepBut.set_ | apply keep_drewN | apply keep_drew | apply keep_alloc | refine keep_far ?_ GW210.out _) | exact HK.out)) hk (.inl rfl)); replace HB := am (hb); replace HI0 := am (hi); (try clear hb); (try clear hb2); (try clear hk); (try clear hi)) | ((with_reducible refine gate_dst (N := 5) rfl ?_); refine box_event ?hg (N := 5) ?hd (cs := #[.int .i64 0, .int .i64 0, .int .i64 0, .string (⟨#[]⟩ : ByteArray), .slice none 0 0]) (t := 24) ?hr ?_; (case hd => rfl); (case hg => rfl); (case hr => exact gz); intro gb214 hg w133 hbox hb; replace HB := am (below_step (by repeat (first | (with_reducible first | exact HB.out | apply below_alloc | apply pw_below_drewN | apply below_drew1 | refine below_set ?_ (IsS51.ge HI0.out) | refine below_set ?_ GE210.out) | exact HB.out)) hb); have BK214 := am (hbox); have GW214 := am ((by rw [hg]; exact (keep_size (w := w) (g := g) (row := none) (by repeat (first | (with_reducible first | exact HK.out | apply KeepBut.set_ | apply keep_drewN | apply keep_drew | apply keep_alloc | refine keep_far ?_ GW210.out _) | exact HK.out))) : w.heap.size ≤ gb214)); have GE214 := am ((Nat.le_trans HW0.out (by rw [hg]; exact (keep_size (w := w) (g := g) (row := none) (by repeat (first | (with_reducible first | exact HK.out | apply KeepBut.set_ | apply keep_drewN | apply keep_drew | apply keep_alloc | refine keep_far ?_ GW210.out _) | exact HK.out))) : w.heap.size ≤ gb214) : w0.heap.size ≤ gb214)); replace HK := am (KeepBut.trans (by repeat (first | (with_reducible first | exact HK.out | apply KeepBut.set_ | apply keep_drewN | apply keep_drew | apply keep_alloc | refine keep_far ?_ GW210.out _) | exact HK.out)) (KeepBut.of_below hb g none) (.inl rfl)); have NB210_214 := am ((by rw [hg]; exact Nat.ne_of_lt (blk_lt (g := gb210) (o := .cells #[.int .i64 0, .int .i64 0, .int .i64 0, .string (⟨#[]⟩ : ByteArray), .slice none 0 0] 24 (0, 0)) (bz BK210.out)) : gb210 ≠ gb214)); have NB214_210 := am ((by rw [hg]; exact Nat.ne_of_gt (blk_lt (g := gb210) (o := .cells #[.int .i64 0, .int .i64 0, .int .i64 0, .string (⟨#[]⟩ : ByteArray), .slice none 0 0] 24 (0, 0)) (bz BK210.out)) : gb214 ≠ gb210)); replace BK210 := am (blk_below (g := gb210) (o := .cells #[.int .i64 0, .int .i64 0, .int .i64 0, .string (⟨#[]⟩ : ByteArray), .slice none 0 0] 24 (0, 0)) (bz BK210.out) hb); have NB0_214 := am ((by rw [hg]; exact Nat.ne_of_lt (IsS51.lt (show IsS51 w0 _ g s0_0 t212 from by repeat (first | (with_reducible first | exact HI0.out | apply IsS51.alloc | apply IsS51.drewN | apply IsS51.drew | apply IsS51.set_1 | refine IsS51.far ?_ NB0_210.out _) | exact HI0.out))) : g ≠ gb214)); have NB214_0 := am ((by rw [hg]; exact Nat.ne_of_gt (IsS51.lt (show IsS51 w0 _ g s0_0 t212 from by repeat (first | (with_reducible first | exact HI0.out | apply IsS51.alloc | apply IsS51.drewN | apply IsS51.drew | apply IsS51.set_1 | refine IsS51.far ?_ NB0_210.out _) | exact HI0.out))) : gb214 ≠ g)); replace HI0 := am (IsS51.below (by repeat (first | (with_reducible first | exact HI0.out | apply IsS51.alloc | apply IsS51.drewN | apply IsS51.drew | apply IsS51.set_1 | refine IsS51.far ?_ NB0_210.out _) | exact HI0.out)) hb); clear hb hbox hg; have hnb134 := NB214_210.out; have hnc134 := NB210_214.out; have hnb135 := NB214_0.out; have hnc135 := NB0_214.out; obtain ⟨hcz136_0, hcz136_1, hcz136_2, hcz136_3, hcz136_4⟩ := cs5 BK214.out; obtain ⟨hfz136_0, hfz136_1, hfz136_2, hfz136_3, hfz136_4⟩ := fs5 BK214.out) | ((with_reducible refine gate_callee (f := 31) rfl ?_); refine goesLP_ (some 18) rfl rfl Try.func31 (by kernel_rfl) rfl #[.pointer (some ⟨g, 0, none⟩)] rfl lz ?_; (with_reducible refine (codec_decoder_next.calls g s0_0 t212 t215 t216 t217 w0 _ ?side1 ?side2 A7.out).mono ?_); (case side1 => repeat (first | (with_reducible first | exact HI0.out | apply IsS51.alloc | apply IsS51.drewN | apply IsS51.drew | apply IsS51.set_1 | refine IsS51.far ?_ NB0_210.out _ | refine IsS51.far ?_ NB0_214.out _) | exact HI0.out)); (case side2 => repeat (first | (with_reducible first | exact HB.out | apply below_alloc | apply pw_below_drewN | apply below_drew1 | refine below_set ?_ (IsS51.ge HI0.out) | refine below_set ?_ GE210.out | refine below_set ?_ GE214.out) | exact HB.out)); rintro e w137 ⟨he_, hi, hb, hk⟩; (first | (refine zero_ he_ ?hz_ ?_; (case hz_ => (with_reducible assumption))) | (refine pan_ he_ ?hz_ ?_; (case hz_ => (with_reducible assumption)))); replace BK210 := am (KeepBut.blk hk (g' := gb210) (o := .cells #[.int .i64 0, .int .i64 0, .int .i64 0, .string (⟨#[]⟩ : ByteArray), .slice none 0 0] 24 (0, 0)) (bf1 NB210_214.out BK210.out) NB210_0.out (by simp)); replace BK214 := am (KeepBut.blk hk (g' := gb214) (o := .cells #[.int .i64 t211, .int .i64 0, .int .i64 0, .string (⟨#[]⟩ : ByteArray), .slice none 0 0] 24 (0, 0)) (by (with_reducible repeat (first | refine blk_drewN ?_ _ | refine blk_drew ?_ | refine blk_alloc ?_ _)); refine blk_put (cs := #[.int .i64 t211, .int .i64 0, .int .i64 0, .string (⟨#[]⟩ : ByteArray), .slice none 0 0]) ?_ 4 _ rfl; (with_reducible repeat (first | refine blk_drewN ?_ _ | refine blk_drew ?_ | refine blk_alloc ?_ _)); refine blk_put (cs := #[.int .i64 t211, .int .i64 0, .int .i64 0, .string (⟨#[]⟩ : ByteArray), .slice none 0 0]) ?_ 3 _ rfl; (with_reducible repeat (first | refine blk_drewN ?_ _ | refine blk_drew ?_ | refine blk_alloc ?_ _)); refine blk_put (cs := #[.int .i64 t211, .int .i64 0, .int .i64 0, .string (⟨#[]⟩ : ByteArray), .slice none 0 0]) ?_ 2 _ rfl; (with_reducible repeat (first | refine blk_drewN ?_ _ | refine blk_drew ?_ | refine blk_alloc ?_ _)); refine blk_put (cs := #[.int .i64 t211, .int .i64 0, .int .i64 0, .string (⟨#[]⟩ : ByteArray), .slice none 0 0]) ?_ 1 _ rfl; (with_reducible repeat (first | refine blk_drewN ?_ _ | refine blk_drew ?_ | refine blk_alloc ?_ _)); refine blk_put (cs := #[.int .i64 0, .int .i64 0, .int .i64 0, .string (⟨#[]⟩ : ByteArray), .slice none 0 0]) ?_ 0 _ rfl; (with_reducible repeat (first | refine blk_drewN ?_ _ | refine blk_drew ?_ | refine blk_alloc ?_ _)); exact BK214.out) NB214_0.out (by simp)); replace HK := am (KeepBut.trans (by repeat (first | (with_reducible first | exact HK.out | apply KeepBut.set_ | apply keep_drewN | apply keep_drew | apply keep_alloc | refine keep_far ?_ GW210.out _ | refine keep_far ?_ GW214.out _) | exact HK.out)) hk (.inl rfl)); replace HB := am (hb); replace HI0 := am (hi); (try clear hb); (try clear hb2); (try clear hk); (try clear hi)))
    refine ⟨rfl, ?_⟩
    exact ⟨_, by first | rfl | (refine pan_eq ?_; assumption) | (simp [errW_none, errW_some] <;> rfl) | (simp [*, errW_none, errW_some] <;> rfl), by first | exact Kd.R_nil _ _ _ _ _ | exact Kd.N_nil _ _ _ _ _ | exact Kd.V_nil _ _ _ _ _ | exact Kd.Q_nil _ _ _ _ _ | exact Kd.S_nil _ _ _ _ _, by repeat (first | (with_reducible first | exact HI0.out | apply IsS51.alloc | apply IsS51.drewN | apply IsS51.drew | apply IsS51.set_1 | refine IsS51.far ?_ NB0_210.out _ | refine IsS51.far ?_ NB0_214.out _) | exact HI0.out), by repeat (first | (with_reducible first | exact HB.out | apply below_alloc | apply pw_below_drewN | apply below_drew1 | refine below_set ?_ (IsS51.ge HI0.out) | refine below_set ?_ GE210.out | refine below_set ?_ GE214.out) | exact HB.out), by repeat (first | (with_reducible first | exact HK.out | apply KeepBut.set_ | apply keep_drewN | apply keep_drew | apply keep_alloc | refine keep_far ?_ GW210.out _ | refine keep_far ?_ GW214.out _) | exact HK.out)⟩
  ·
   rw [if_neg c6] at H
   have c6b0 : (t213 == 0) = false := beq_eq_false_iff_ne.mpr c6
   have c6b1 : (t213 != 0) = true := bne_iff_ne.mpr c6
   simp only [Option.some.injEq, Prod.mk.injEq] at H
   obtain ⟨rfl, rfl, rfl, rfl, rfl, rfl, rfl⟩ := H
   go_enter Try.func24, Try.ntmps24
   go_wp2_with (first | ((with_reducible refine gate_dst (N := 4) rfl ?_); refine box_event ?hg (N := 4) ?hd (cs := #[.int .i64 0, .int .i64 0, .int .i64 0, .string (⟨#[]⟩ : ByteArray), .slice none 0 0]) (t := 24) ?hr ?_; (case hd => rfl); (case hg => rfl); (case hr => exact gz); intro gb210 hg w138 hbox hb; replace HB := am (below_step (by repeat (first | (with_reducible first | exact HB.out | apply below_alloc | apply pw_below_drewN | apply below_drew1 | refine below_set ?_ (IsS51.ge HI0.out)) | exact HB.out)) hb); have BK210 := am (hbox); have GW210 := am ((by rw [hg]; exact (keep_size (w := w) (g := g) (row := none) (by repeat (first | (with_reducible first | exact HK.out | apply KeepBut.set_ | apply keep_drewN | apply keep_drew | apply keep_alloc) | exact HK.out))) : w.heap.size ≤ gb210)); have GE210 := am ((Nat.le_trans HW0.out (by rw [hg]; exact (keep_size (w := w) (g := g) (row := none) (by repeat (first | (with_reducible first | exact HK.out | apply KeepBut.set_ | apply keep_drewN | apply keep_drew | apply keep_alloc) | exact HK.out))) : w.heap.size ≤ gb210) : w0.heap.size ≤ gb210)); replace HK := am (KeepBut.trans (by repeat (first | (with_reducible first | exact HK.out | apply KeepBut.set_ | apply keep_drewN | apply keep_drew | apply keep_alloc) | exact HK.out)) (KeepBut.of_below hb g none) (.inl rfl)); have NB0_210 := am ((by rw [hg]; exact Nat.ne_of_lt (IsS51.lt (show IsS51 w0 _ g s0_0 s0_1 from by repeat (first | (with_reducible first | exact HI0.out | apply IsS51.alloc | apply IsS51.drewN | apply IsS51.drew | apply IsS51.set_1) | exact HI0.out))) : g ≠ gb210)); have NB210_0 := am ((by rw [hg]; exact Nat.ne_of_gt (IsS51.lt (show IsS51 w0 _ g s0_0 s0_1 from by repeat (first | (with_reducible first | exact HI0.out | apply IsS51.alloc | apply IsS51.drewN | apply IsS51.drew | apply IsS51.set_1) | exact HI0.out))) : gb210 ≠ g)); replace HI0 := am (IsS51.below (by repeat (first | (with_reducible first | exact HI0.out | apply IsS51.alloc | apply IsS51.drewN | apply IsS51.drew | apply IsS51.set_1) | exact HI0.out)) hb); clear hb hbox hg) | ((with_reducible refine gate_callee (f := 30) rfl ?_); refine goesLP_ (some 15) rfl rfl Try.func30 (by kernel_rfl) rfl #[.pointer (some ⟨g, 0, none⟩), .int .u64 9999999, .int .i64 3] rfl lz ?_; (with_reducible refine (codec_decoder_limited.calls k g s0_0 s0_1 9999999 3 t211 t212 t213 w0 _ ?side1 ?side2 A5.out).mono ?_); (case side1 => repeat (first | (with_reducible first | exact HI0.out | apply IsS51.alloc | apply IsS51.drewN | apply IsS51.drew | apply IsS51.set_1 | refine IsS51.far ?_ NB0_210.out _) | exact HI0.out)); (case side2 => repeat (first | (with_reducible first | exact HB.out | apply below_alloc | apply pw_below_drewN | apply below_drew1 | refine below_set ?_ (IsS51.ge HI0.out) | refine below_set ?_ GE210.out) | exact HB.out)); rintro e w139 ⟨he_, hi, hb, hk⟩; (first | (refine zero_ he_ ?hz_ ?_; (case hz_ => (with_reducible assumption))) | (refine pan_ he_ ?hz_ ?_; (case hz_ => (with_reducible assumption)))); replace BK210 := am (KeepBut.blk hk (g' := gb210) (o := .cells #[.int .i64 0, .int .i64 0, .int .i64 0, .string (⟨#[]⟩ : ByteArray), .slice none 0 0] 24 (0, 0)) (bz BK210.out) NB210_0.out (by simp)); replace HK := am (KeepBut.trans (by repeat (first | (with_reducible first | exact HK.out | apply KeepBut.set_ | apply keep_drewN | apply keep_drew | apply keep_alloc | refine keep_far ?_ GW210.out _) | exact HK.out)) hk (.inl rfl)); replace HB := am (hb); replace HI0 := am (hi); (try clear hb); (try clear hb2); (try clear hk); (try clear hi)))
   refine ⟨rfl, ?_⟩
   exact ⟨_, by first | rfl | (refine pan_eq ?_; assumption) | (simp [errW_none, errW_some] <;> rfl) | (simp [*, errW_none, errW_some] <;> rfl), by first | exact Kd.R_nil _ _ _ _ _ | exact Kd.N_nil _ _ _ _ _ | exact Kd.V_nil _ _ _ _ _ | exact Kd.Q_nil _ _ _ _ _ | exact Kd.S_nil _ _ _ _ _, by repeat (first | (with_reducible first | exact HI0.out | apply IsS51.alloc | apply IsS51.drewN | apply IsS51.drew | apply IsS51.set_1 | refine IsS51.far ?_ NB0_210.out _) | exact HI0.out), by repeat (first | (with_reducible first | exact HB.out | apply below_alloc | apply pw_below_drewN | apply below_drew1 | refine below_set ?_ (IsS51.ge HI0.out) | refine below_set ?_ GE210.out) | exact HB.out), by repeat (first | (with_reducible first | exact HK.out | apply KeepBut.set_ | apply keep_drewN | apply keep_drew | apply keep_alloc | refine keep_far ?_ GW210.out _) | exact HK.out)⟩

end Go.Proofs.Ytipjfhakcceebaa.Q
