/- Made by wip/myprint.py of this session (it drives the kit's printer): what the calls of the Go functions come to, as plain Lean functions, and the row of a law over them; without conditions. -/
import Derived.Test.YteeggfnailpcpaaDoorQx0
import Derived.Test.YteeggfnailpcpaaDoorQx1
import Derived.Test.YteeggfnailpcpaaDoorQx4
import Derived.Test.YteeggfnailpcpaaDoorQx8
namespace Go.Proofs.YteeggfnailpcpaaDoor.Q
open Go.RowKit Go.Proofs.YteeggfnailpcpaaDoorW.PrintWords Go.Proofs.YteeggfnailpcpaaDoorW.PrintLast Go.Proofs.YteeggfnailpcpaaDoorW.PrintMore
attribute [local go_sem] max2_int min2_int max_two min_two max_three min_three max_four min_four   -- for this text's walks alone
set_option linter.unusedVariables false
set_option linter.unusedSimpArgs false

-- NOT PRINTED: function 58 (reflectlite_ValueOf)

-- NOT PRINTED: function 59 (reflectlite_Value_Type)

-- NOT PRINTED: function 60 (reflectlite_Value_IsNil)

-- NOT PRINTED: function 68 (reflectlite_TypeOf)

-- NOT PRINTED: function 69 (reflectlite_Value_Elem)

-- NOT PRINTED: function 70 (reflectlite_Value_Set)

-- NOT PRINTED: function 61 (errors_as)

-- NOT PRINTED: function 45 (errors_As)

/-! ### journal_code: function 32 -/
def journal_code.f (a0 : Option Int) : Option Int := some (a0.getD 0)
set_option maxHeartbeats 8000000 in
theorem journal_code.calls (a0 : Option Int) (v0 : Value) (r : Int) (w : World) (hG : GlE w) (hE : PErr w v0 a0) (h : journal_code.f a0 = some r) :
  Calls Tryd.prog 32 #[v0] w fun e w' => e = .returned (.int .i64 r) ∧ Below w.heap.size w w' := by
  obtain rfl := Option.some.inj h
  clear h
  cases a0 with
  | none =>
    obtain rfl : v0 = .nilIface := hE
    go_enter Tryd.func32, Tryd.ntmps32
    go_wp2_with (go_at_call 45; refine (As.as_nil _ _).mono ?_; rintro e w' ⟨rfl, rfl⟩)
    go_ret
    exact ⟨rfl, hz (Below.refl _ _)⟩
  | some c =>
    obtain ⟨g, rfl, hg⟩ := hE
    have hlt := World.block_lt_of_cell? w _ hG
    have hgl := blk_lt hg
    have hgA : (w.alloc (.cells #[.pointer none] 65)).cell? ⟨0, 0, none⟩ = some (.iface 102 (.agg #[.pointer (some ⟨1, 55, none⟩)])) := by
      rw [World.cell?_alloc_lt _ _ ⟨0, 0, none⟩ hlt]; exact hG
    have htA : (w.alloc (.cells #[.pointer none] 65)).cell? ⟨w.heap.size, 0, none⟩ = some (.pointer none) := by simp
    have hfA : (w.alloc (.cells #[.pointer none] 65)).frozen? ⟨w.heap.size, 0, none⟩ = false := by simp
    have hn : g ≠ w.heap.size := Nat.ne_of_lt hgl
    go_enter Tryd.func32, Tryd.ntmps32
    go_wp2_with (go_at_call 45; refine (As.as_hit _ _ (.pointer none) _ hgA htA hfA).mono ?_; rintro e w' ⟨rfl, hw⟩; have hB : Below w.heap.size w w' := (by rw [hw]; exact hz1 (Below.refl w.heap.size w) (Nat.le_refl w.heap.size)); have hc1 : w'.cell? ⟨g, 0, none⟩ = some (.int .i64 c) := (blk_cell (blk_below hg hB) 0).trans rfl; have hc0 : w'.cell? ⟨w.heap.size, 0, none⟩ = some (.pointer (some ⟨g, 0, none⟩)) := (by rw [hw]; exact (blk_cell (blk_put (cs := #[.pointer none]) (blk_alloc (blk_alloc (blk_alloc (blk_alloc (heap_alloc_new w (.cells #[.pointer none] 65)) _) _) _) _) 0 (.pointer (some ⟨g, 0, none⟩)) rfl) 0).trans rfl); clear hw)
    go_ret
    exact ⟨rfl, hB⟩

/-! ### journal_big: function 35 -/
def journal_big.l0 : Nat → Int → Int → List Int → Int → Int → Option (List Int)
 | 0, _, _, _, _, _ => none
 | k + 1, x0, x1, x5, x10, x11 => if x11 < x10 then (if 0 ≤ (wrap64 (8 * (wrap64 ((wrap64 (x1 - 1)) - x11)))) then (if 0 ≤ x11 then (if x11 < (x5.length : Int) then (journal_big.l0 k x0 x1 (x5.set (x11 : Int).toNat ((shr .u64 x0 (wrap64 (8 * (wrap64 ((wrap64 (x1 - 1)) - x11))))) % 256)) x10 (wrap64 (x11 + 1))) else (none)) else (none)) else (none)) else (some x5)
def journal_big.f (k : Nat) (a0 : Int) (a1 : Int) : Option (List Int) := if 0 ≤ a1 then (if (a1 : Int).toNat ≤ 281474976710656 then ((some (List.replicate (a1 : Int).toNat 0 : List Int)).bind fun y248 => (journal_big.l0 k a0 a1 y248 (y248.length : Int) 0)) else (none)) else (none)
theorem journal_big.mono_l : ∀ k, (∀ y0 y1 y2 y3 y4, LeO (journal_big.l0 k y0 y1 y2 y3 y4) (journal_big.l0 (k + 1) y0 y1 y2 y3 y4))
 | 0 => fun _ _ _ _ _ r h => by simp [journal_big.l0] at h
 | k + 1 => by
  have ih0 := journal_big.mono_l k
  ·
   intro y0 y1 y2 y3 y4
   unfold journal_big.l0
   repeat' first
   | (with_reducible exact ih0 _ _ _ _ _)
   | (with_reducible exact LeO.refl _)
   | (with_reducible exact LeO.none _)
   | (with_reducible refine LeO.ite ?_ ?_)
   | (with_reducible refine LeO.bind ?_ (fun _ => ?_))
   | exact ih0 _ _ _ _ _
   | exact LeO.none _
   | refine LeO.ite ?_ ?_
   | refine LeO.bind ?_ (fun _ => ?_)
theorem journal_big.mono : ∀ a0 a1 k, LeO (journal_big.f k a0 a1) (journal_big.f (k + 1) a0 a1) := by
 intro a0 a1 k
 have ih0 := journal_big.mono_l k
 unfold journal_big.f
 repeat' first
   | (with_reducible exact ih0 _ _ _ _ _)
   | (with_reducible exact LeO.refl _)
   | (with_reducible exact LeO.none _)
   | (with_reducible refine LeO.ite ?_ ?_)
   | (with_reducible refine LeO.bind ?_ (fun _ => ?_))
   | exact ih0 _ _ _ _ _
   | exact LeO.none _
   | refine LeO.ite ?_ ?_
   | refine LeO.bind ?_ (fun _ => ?_)
set_option maxHeartbeats 8000000 in
set_option maxRecDepth 100000 in
theorem journal_big.calls (k : Nat) (a0 : Int) (a1 : Int) (r : List Int) (w : World) (h : journal_big.f k a0 a1 = some r) :
  Calls Tryd.prog 35 #[.int .u64 a0, .int .i64 a1] w fun e w' => ∃ v0_ : Value, e = .returned (v0_) ∧ Kd.R (Kd.int .u8) 5 w' w.heap.size (fun _ => True) v0_ r ∧ Below w.heap.size w w' := by
 have HB := am (Below.refl w.heap.size w)
 have H : (if 0 ≤ a1 then (if (a1 : Int).toNat ≤ 281474976710656 then ((some (List.replicate (a1 : Int).toNat 0 : List Int)).bind fun y248 => (journal_big.l0 k a0 a1 y248 (y248.length : Int) 0)) else (none)) else (none)) = some r := h
 clear h
 replace H := it_ H
 obtain ⟨c3, H⟩ := H
 have c3b0 := eq_true c3
 have c3b1 : decide (0 ≤ a1) = true := decide_eq_true c3
 clear c3
 replace H := it_ H
 obtain ⟨c4, H⟩ := H
 have c4b0 := eq_true c4
 have c4b1 : decide ((a1 : Int).toNat ≤ 281474976710656) = true := decide_eq_true c4
 clear c4
 obtain ⟨y248, hy248⟩ : ∃ y_ : List Int, y_ = (List.replicate (a1 : Int).toNat 0) := ⟨_, rfl⟩
 replace H : (journal_big.l0 k a0 a1 y248 (y248.length : Int) 0) = some r := by first | (rw [hy248]; with_reducible exact H) | (have H2_ := (Option.bind_some _ _).symm.trans H; rw [hy248]; with_reducible exact H2_) | (have H2_ := (Option.bind_some _ _).symm.trans H; with_reducible exact H2_) | with_reducible exact H | (rw [hy248]; exact H) | exact H
 have Ny248 := am hy248
 clear hy248
 have H' := am H
 clear H
 go_enter Tryd.func35, Tryd.ntmps35
 go_wp2_with (first | ((with_reducible refine gate_dst (N := 8) rfl ?_); refine Kd.R_make (Kd.int .u8) _ 5 rfl (N := 8) rfl 24 _ _ rfl a1 rfl rfl Tryd.underlying24 (.int .u8 0) 1 info5 rfl (by decide) (by omega) 0 (ok := fun _ => True) (okp := fun _ => True) rfl (fun _ hk => hk) trivial (of_decide_eq_true az) (Nat.le_trans (Nat.mul_le_mul_right _ (of_decide_eq_true az : a1.toNat ≤ 281474976710656)) (by omega)) (Below.refl _ _) (Nat.le_refl _) ?_; intro v249 w5 ho6 hb hg_ hnew_; clear hg_ hnew_; (first | rw [← Ny248.out] at ho6 | (simp only [Int.reduceToNat] at ho6; rw [← Ny248.out] at ho6)); have HO250 := am (Kd.R_lower ho6 (below_size (hz HB.out))); replace HB := am (below_step (hz HB.out) hb); clear hb ho6; obtain ⟨Ao7, co7, eo7⟩ := Kd.R_slice HO250.out; subst eo7))
 go_loopg [11] k (fun kq v11 w' => ∃ (x5_1 : List Int) (x11_1 : Int), v11 = .int .i64 x11_1 ∧ Aside0 (journal_big.l0 kq a0 a1 x5_1 (y248.length : Int) x11_1 = some r) ∧ Aside0 (kq ≤ k) ∧ Aside0 (Kd.R (Kd.int .u8) 5 w' w.heap.size (fun _ => True) (.slice Ao7 y248.length co7) x5_1) ∧ Aside0 (Below w.heap.size w w'))
 case atStart => exact ⟨(y248), (0), rfz, H', ⟨Nat.le_refl _⟩, ⟨rz HO250.out⟩, ⟨hz HB.out⟩⟩
 case round =>
  clear H'
  obtain ⟨x5_1, x11_1, rfl, HA, HK1, HO_5, HB⟩ := hrel
  have hl5_1 := (Kd.R_reads' HO_5.out).1
  rw [hl5_1] at HO_5
  (try simp only [hl5_1])
  cases gk with
  | zero => exact absurd HA.out (by simp [journal_big.l0])
  | succ k1 =>
   have H := HA.out
   clear HA
   simp only [journal_big.l0] at H
   by_cases c8 : x11_1 < (y248.length : Int)
   ·
    rw [if_pos c8] at H
    have c8b0 : decide (x11_1 < (y248.length : Int)) = true := decide_eq_true c8
    (try (have c8b0rhl5_1 := c8b0; simp only [hl5_1] at c8b0rhl5_1))
    clear c8
    obtain ⟨ji9, hji9⟩ : ∃ j_ : Int, (wrap64 (8 * (wrap64 ((wrap64 (a1 - 1)) - x11_1)))) = j_ := ⟨_, rfl⟩
    replace H : (if 0 ≤ (ji9) then (if 0 ≤ x11_1 then (if x11_1 < (x5_1.length : Int) then (journal_big.l0 k1 a0 a1 (x5_1.set (x11_1 : Int).toNat ((shr .u64 a0 (ji9)) % 256)) (y248.length : Int) (wrap64 (x11_1 + 1))) else (none)) else (none)) else (none)) = some r := by first | (rw [hji9] at H; exact H) | (simp only [hji9] at H ⊢; exact H)
    have hji9w : (IntKind.i64.wrap (8 * (wrap64 ((wrap64 (a1 - 1)) - x11_1)))) = ji9 := (i64_w _).trans hji9
    replace H := it_ H
    obtain ⟨c10, H⟩ := H
    have c10b0 := eq_true c10
    have c10b1 : decide (0 ≤ (ji9)) = true := decide_eq_true c10
    clear c10
    obtain ⟨ji11, hji11⟩ : ∃ j_ : Int, (shr .u64 a0 (ji9)) = j_ := ⟨_, rfl⟩
    replace H : (if 0 ≤ x11_1 then (if x11_1 < (x5_1.length : Int) then (journal_big.l0 k1 a0 a1 (x5_1.set (x11_1 : Int).toNat ((ji11) % 256)) (y248.length : Int) (wrap64 (x11_1 + 1))) else (none)) else (none)) = some r := by first | (rw [hji11] at H; exact H) | (simp only [hji11] at H ⊢; exact H)
    have hji11_ : (a0 / 2 ^ min (ji9).toNat 64) = ji11 := hji11
    have hji11z : (ji9) ≤ 64 → (a0 / 2 ^ (ji9).toNat) = ji11 := shr_small hji11
    replace H := it_ H
    obtain ⟨c12, H⟩ := H
    have c12b0 : decide (0 ≤ x11_1) = true := decide_eq_true c12
    (try (have c12b0rhl5_1 := c12b0; simp only [hl5_1] at c12b0rhl5_1))
    clear c12
    replace H := it_ H
    obtain ⟨c13, H⟩ := H
    have c13b0 : decide (x11_1 < (x5_1.length : Int)) = true := decide_eq_true c13
    (try (have c13b0rhl5_1 := c13b0; simp only [hl5_1] at c13b0rhl5_1))
    clear c13
    obtain ⟨y251, hy251⟩ : ∃ y_ : List Int, y_ = (x5_1.set (x11_1 : Int).toNat ((ji11) % 256)) := ⟨_, rfl⟩
    replace H : (journal_big.l0 k1 a0 a1 y251 (y248.length : Int) (wrap64 (x11_1 + 1))) = some r := by first | (rw [hy251]; with_reducible exact H) | (have H2_ := (Option.bind_some _ _).symm.trans H; rw [hy251]; with_reducible exact H2_) | (have H2_ := (Option.bind_some _ _).symm.trans H; with_reducible exact H2_) | with_reducible exact H | (rw [hy251]; exact H) | exact H
    have Ny251 := am hy251
    clear hy251
    have H' := am H
    clear H
    have p14 : 0 ≤ (x11_1 : Int) := of_decide_eq_true az
    have q14 : (x11_1 : Int) < ((x5_1.length : Int) : Int) := of_decide_eq_true az
    obtain ⟨go14, co14, eo14, gb14, gl14, cl14, HG14⟩ := Kd.R_form HO_5.out (by omega)
    (first | cases eo14 | (injection eo14 with ea_ en_ ec_; (first | subst ea_ | (injection ea_ with ea_; subst ea_)); subst ec_; clear en_))
    have GB14 := am gb14
    have GG14 := am HG14
    clear gb14 gl14 HG14
    obtain ⟨hx14_0, hf14_0⟩ := Kd.R_celln 0 HO_5.out (x11_1 : Int) p14 q14
    replace p14 := eq_true p14
    replace q14 := eq_true q14
    have HP15 := Kd.R_putg HO_5.out (x11_1 : Int) ((ji11) % 256)
    go_wp2_with (first | ((with_reducible refine gate_store (t := 5) (p := 24) rfl ?_); refine store_event (t := 5) (p := 24) (v := ?vo_w16) (w1 := (wr.setCell ⟨go14, (x11_1 : Int).toNat, none⟩ (.int .u8 ((ji11) % 256)))) ?hg ?ho ?hn ?hr ?_; (case ho => rfl); (case hg => rfl); (case hn => rfl); (case hr => exact gz); intro w16 hw; have hg : wr.grownBy w16 (some go14) := (by rw [hw]; exact HP15.2); have hp_ : Kd.R (Kd.int .u8) 5 w16 w.heap.size (fun _ => True) (.slice (some ⟨go14, 0, none⟩) x5_1.length co7) y251 := (by rw [hw, Ny251.out]; exact HP15.1); clear HP15; replace HO_5 := am (hp_); replace HB := am ((by rw [hw]; exact below_set (HB.out) GB14.out : Below w.heap.size w w16)); clear hg hw hp_))
    (try simp only [← hl5_1])
    go_roundg k1
    case measure => have := HK1.out; omega
    case rel => exact ⟨(y251), (wrap64 (x11_1 + 1)), rfz, H', ⟨by have := HK1.out; omega⟩, ⟨by (try simp only [hl5_1]); (with_reducible repeat (first | apply Kd.R_alloc | apply Kd.R_drewN | apply Kd.R_drew)); exact HO_5.out⟩, ⟨hz HB.out⟩⟩
   ·
    rw [if_neg c8] at H
    have c8b0 : decide (x11_1 < (y248.length : Int)) = false := decide_eq_false c8
    (try (have c8b0rhl5_1 := c8b0; simp only [hl5_1] at c8b0rhl5_1))
    clear c8
    obtain rfl := Option.some.inj H
    go_wp2
    go_ret
    exact ⟨_, ew, rz HO_5.out, hz HB.out⟩

/-! ### bytes_Clone: function 36 -/
def bytes_Clone.f (l0 : List Int) : Option (List Int) := if l0.length < 140737488355328 then some l0 else none
theorem bytes_Clone.calls (A0 : Option Addr) (c0 : Nat) (l0 : List Int) (r : List Int) (w : World) (hr0 : Kd.C (Kd.int .u8) w A0 l0.length l0) (hc0 : l0.length ≤ c0) (h : bytes_Clone.f l0 = some r) :
    Calls Tryd.prog 36 #[.slice A0 l0.length c0] w fun e w' => ∃ v0_ : Value, e = .returned (v0_) ∧ Kd.R (Kd.int .u8) 5 w' w.heap.size (fun _ => True) v0_ r ∧ Below w.heap.size w w' := by
  unfold bytes_Clone.f at h
  by_cases hl : l0.length < 140737488355328
  · rw [if_pos hl] at h
    obtain rfl := Option.some.inj h
    have HL := Aside0.mk hl
    have HR := Aside0.mk hr0
    have info5' : (Tryd.prog.info? 5).map (fun i => (i.zero, i.size, i.bytes)) = some (some (.int .u8 0), 1, 1) := by kernel_rfl
    have HI := Aside0.mk info5'
    clear h hl hr0 info5'
    cases A0 with
    | none =>
      have h0 : l0.length = 0 := by
        have hx := Kd.reads_of_C (d := (0 : Int)) HR.out
        rcases Nat.eq_zero_or_pos l0.length with h | h
        · exact h
        · obtain ⟨ad, he, _⟩ := hx.2.2 h; cases he
      have h1 := List.eq_nil_of_length_eq_zero h0
      subst h1
      have hnil := fun W => Lib.run_eql_slice_nil (P := Tryd.prog) W 24 5 none 0 c0 0 0 Tryd.underlying24
      clear h0
      go_enter Tryd.func36, Tryd.ntmps36
      go_wp2
      go_ret
      exact ⟨_, rfl, Kd.R_nil _ _ _ _ _, Below.refl _ _⟩
    | some ad =>
      have hnil := fun W => Lib.run_eql_slice_nil (P := Tryd.prog) W 24 5 (some ad) l0.length c0 0 0 Tryd.underlying24
      simp only [Option.isNone_some] at hnil
      go_enter Tryd.func36, Tryd.ntmps36
      go_wp2_with (first | ((with_reducible refine gate_dst (N := 5) rfl ?_); refine Kd.R_lit (Kd.int .u8) (w0 := w) w.heap.size 5 ?hg (N := 5) ?hd (xs := ([] : List Int)) (inner := []) (ok := fun _ => True) (okp := fun _ => True) ?hr ?hp (fun _ hk => hk) trivial (Below.refl _ _) (Nat.le_refl _) (by simp) ?_; (case hd => rfl); (case hg => rfl); (case hr => first | (go_simp; done) | (go_simp; rfl)); (case hp => exact (Reps.none _ _)); intro v2 w2 ho hb hg_ hnew_; clear hg_ hnew_; have HO2 := Aside0.mk ho; have HB2 := Aside0.mk hb; clear ho hb) | ((with_reducible refine gate_builtin (b := .append) (xs := #[.tmp 5, .tmp 6]) rfl ?_); at_builtin; refine Kd.R_append_rows (Kd.int .u8) (w0 := w) w.heap.size rfl (.tmp 5) (.tmp 6) 24 5 (.int .u8 0) 1 rfl Tryd.underlying24 HI.out rfl (by decide) (by omega) v2 [] l0 _ _ _ (fun _ => True) (fun _ => False) rfl rfl ?aO ?aR (fun _ _ h => h) (fun _ h => h.elim) ?aF ?aB ?aS ?aL ?_; (case aR => exact Kd.C_below HR.out HB2.out); (case aB => exact HB2.out); (case aF => exact (fun _ _ => trivial)); (case aO => exact HO2.out); (case aS => exact HB2.out.size); (case aL => have := HL.out; simp; omega); intro v3 w3 ho hb hg hat; clear hg hat; have HO3 := Aside0.mk ho; have HB3 := Aside0.mk hb; clear ho hb HO2 HB2))
      go_ret
      exact ⟨_, rfl, HO3.out, HB3.out⟩
  · rw [if_neg hl] at h
    cases h

/-! ### journal_Append: function 19 -/
def journal_Append.j0 : Nat → List Int → Int → List Int → Bool → Option (List Int × Int)
 | 0, _, _, _, _ => none
 | k + 1, x0, x8, x11, x40 => if x40 = true then (some (([] : List Int), 5)) else ((journal_big.f k (IntKind.u64.wrap ((x11.length : Int))) 4).bind fun t264 => (if t264.length + x11.length < 140737488355328 then ((some (t264 ++ x11 : List Int)).bind fun y267 => ((bytes_Clone.f x0).bind fun t270 => (if t270.length + y267.length < 140737488355328 then ((some (t270 ++ y267 : List Int)).bind fun y273 => ((digest_Chain.f k x8 y267).bind fun t276 => ((journal_big.f k t276 8).bind fun t277 => (if y273.length + t277.length < 140737488355328 then (some ((y273 ++ t277), 0)) else (none))))) else (none)))) else (none)))
def journal_Append.f (k : Nat) (l0 : List Int) (a1_0 : Int) (a1_1 : Int) (a1_2 : Int) (a1_3 : ByteArray) (l1_4 : List (S43)) : Option (List Int × Int) := (journal_read.f k l0).bind fun bt253 => ((journal_code.f bt253.2.2.2).bind fun t259 => (if t259 = 0 then ((codec_Encode.f k a1_0 a1_1 a1_2 a1_3 l1_4).bind fun bt260 => (if bt260.2 = 0 then (if (bt260.1.length : Int) > 2000 then (journal_Append.j0 k l0 bt253.2.2.1 bt260.1 true) else (journal_Append.j0 k l0 bt253.2.2.1 bt260.1 (decide ((bt253.1.length : Int) ≥ 300)))) else (some (([] : List Int), 1)))) else (some (([] : List Int), t259))))
theorem journal_Append.mono_l : ∀ k, (∀ y0 y1 y2 y3, LeO (journal_Append.j0 k y0 y1 y2 y3) (journal_Append.j0 (k + 1) y0 y1 y2 y3))
 | 0 => fun _ _ _ _ r h => by simp [journal_Append.j0] at h
 | k + 1 => by
  have ih0 := journal_Append.mono_l k
  ·
   intro y0 y1 y2 y3
   unfold journal_Append.j0
   repeat' first
   | (with_reducible exact ih0 _ _ _ _)
   | (with_reducible exact codec_Encode.mono _ _ _ _ _ _)
   | (with_reducible exact digest_Chain.mono _ _ _)
   | (with_reducible exact journal_big.mono _ _ _)
   | (with_reducible exact journal_read.mono _ _)
   | (with_reducible exact LeO.refl _)
   | (with_reducible exact LeO.none _)
   | (with_reducible refine LeO.ite ?_ ?_)
   | (with_reducible refine LeO.bind ?_ (fun _ => ?_))
   | exact ih0 _ _ _ _
   | exact codec_Encode.mono _ _ _ _ _ _
   | exact digest_Chain.mono _ _ _
   | exact journal_big.mono _ _ _
   | exact journal_read.mono _ _
   | exact LeO.none _
   | refine LeO.ite ?_ ?_
   | refine LeO.bind ?_ (fun _ => ?_)
theorem journal_Append.mono : ∀ a0 a1 a2 a3 a4 a5 k, LeO (journal_Append.f k a0 a1 a2 a3 a4 a5) (journal_Append.f (k + 1) a0 a1 a2 a3 a4 a5) := by
 intro a0 a1 a2 a3 a4 a5 k
 have ih0 := journal_Append.mono_l k
 unfold journal_Append.f
 repeat' first
   | (with_reducible exact ih0 _ _ _ _)
   | (with_reducible exact codec_Encode.mono _ _ _ _ _ _)
   | (with_reducible exact digest_Chain.mono _ _ _)
   | (with_reducible exact journal_big.mono _ _ _)
   | (with_reducible exact journal_read.mono _ _)
   | (with_reducible exact LeO.refl _)
   | (with_reducible exact LeO.none _)
   | (with_reducible refine LeO.ite ?_ ?_)
   | (with_reducible refine LeO.bind ?_ (fun _ => ?_))
   | exact ih0 _ _ _ _
   | exact codec_Encode.mono _ _ _ _ _ _
   | exact digest_Chain.mono _ _ _
   | exact journal_big.mono _ _ _
   | exact journal_read.mono _ _
   | exact LeO.none _
   | refine LeO.ite ?_ ?_
   | refine LeO.bind ?_ (fun _ => ?_)
set_option maxHeartbeats 8000000 in
set_option maxRecDepth 100000 in
theorem journal_Append.calls (k : Nat) (A0 : Option Addr) (c0 : Nat) (l0 : List Int) (a1_0 : Int) (a1_1 : Int) (a1_2 : Int) (a1_3 : ByteArray) (A1_4 : Option Addr) (c1_4 : Nat) (l1_4 : List (S43)) (r1 : List Int) (r2 : Int) (w : World) (hG : GlE w) (hr0 : Kd.C (Kd.int .u8) w A0 l0.length l0) (hc0 : l0.length ≤ c0) (hr1_4 : Kd.C k43 w A1_4 l1_4.length l1_4) (hc1_4 : l1_4.length ≤ c1_4) (h : journal_Append.f k l0 a1_0 a1_1 a1_2 a1_3 l1_4 = some (r1, r2)) :
  Calls Tryd.prog 19 #[.slice A0 l0.length c0, .agg #[.int .i64 a1_0, .int .i64 a1_1, .int .i64 a1_2, .string a1_3, .slice A1_4 l1_4.length c1_4]] w fun e w' => ∃ v0_ : Value, e = .returned (.tuple #[v0_, .int .i64 r2]) ∧ Kd.R (Kd.int .u8) 5 w' w.heap.size (fun _ => True) v0_ r1 ∧ Below w.heap.size w w' := by
 have hu43 := Tryd.underlying43
 have HR0 := am hr0
 have HC0 := am hc0
 clear hr0 hc0
 have HR1_4 := am hr1_4
 have HC1_4 := am hc1_4
 clear hr1_4 hc1_4
 have HG_ := am hG
 clear hG
 have HB := am (Below.refl w.heap.size w)
 have H : ((journal_read.f k l0).bind fun bt253 => ((journal_code.f bt253.2.2.2).bind fun t259 => (if t259 = 0 then ((codec_Encode.f k a1_0 a1_1 a1_2 a1_3 l1_4).bind fun bt260 => (if bt260.2 = 0 then (if (bt260.1.length : Int) > 2000 then (journal_Append.j0 k l0 bt253.2.2.1 bt260.1 true) else (journal_Append.j0 k l0 bt253.2.2.1 bt260.1 (decide ((bt253.1.length : Int) ≥ 300)))) else (some (([] : List Int), 1)))) else (some (([] : List Int), t259))))) = some (r1, r2) := h
 clear h
 replace H := Option.bind_eq_some_iff.mp H
 obtain ⟨⟨t253, t254, t255, t256⟩, A30, H⟩ := H
 try dsimp only at H
 have A3 := am A30
 clear A30
 replace H := Option.bind_eq_some_iff.mp H
 obtain ⟨t259, A40, H⟩ := H
 try dsimp only at H
 have A4 := am A40
 clear A40
 by_cases c5 : t259 = 0
 ·
  rw [if_pos c5] at H
  have c5b0 : (t259 == 0) = true := beq_iff_eq.mpr c5
  have c5b1 : (t259 != 0) = false := bne_eq_false_iff_eq.mpr c5
  clear c5
  replace H := Option.bind_eq_some_iff.mp H
  obtain ⟨⟨t260, t263⟩, A60, H⟩ := H
  try dsimp only at H
  have A6 := am A60
  clear A60
  by_cases c7 : t263 = 0
  ·
   rw [if_pos c7] at H
   have c7b0 : (t263 == 0) = true := beq_iff_eq.mpr c7
   have c7b1 : (t263 != 0) = false := bne_eq_false_iff_eq.mpr c7
   clear c7
   have HC8 := am H
   clear H
   go_enter Tryd.func19, Tryd.ntmps19
   go_upto_region 8 with (first | ((with_reducible refine gate_dst (N := 3) rfl ?_); (try (refine gate_guard (by rfl) ?_; dsimp only)); refine box_event rfl (N := 3) rfl (cs := #[.int .i64 a1_0, .int .i64 a1_1, .int .i64 a1_2, .string a1_3, .slice A1_4 l1_4.length c1_4]) (t := 43) gz ?_; intro gb252 hg w9 hbox hb; have BK252 := am (hbox); have GW252 := am ((bs hg (hz HB.out) : w.heap.size ≤ gb252)); have GE252 := am ((bs hg (hz HB.out) : w.heap.size ≤ gb252)); replace HB := am (below_step (hz HB.out) hb); clear hb hbox hg) | ((with_reducible refine gate_callee (f := 31) rfl ?_); refine goesL_ (some 16) rfl rfl Tryd.func31 (by kernel_rfl) rfl #[.slice A0 l0.length c0] rfl lz ?_; (with_reducible refine (journal_read.calls k _ _ l0 t253 t254 t255 t256 _ ?side1 ?side2 A3.out).mono ?_); (case side1 => exact cz (Kd.C_below HR0.out HB.out)); (case side2 => exact HC0.out); rintro e w10 ⟨v257, vE_, rfl, hE_, ho0, hb⟩; have PE_ := am hE_; clear hE_; refine ⟨_, rfl, ?_⟩; have HO258 := am (Kd.R_lower (Kd.R_newB ho0 (g := gb252) (o := .cells #[.int .i64 a1_0, .int .i64 a1_1, .int .i64 a1_2, .string a1_3, .slice A1_4 l1_4.length c1_4] 43 (0, 0)) (bz BK252.out)) (below_size (hz1 HB.out GE252.out))); replace BK252 := am (blk_below (bz BK252.out) hb); replace HB := am (below_step (hz1 HB.out GE252.out) hb); (try simp only [errW_none, errW_some]); have CA4 := fun W hG_ hE_ => journal_code.calls t256 vE_ t259 W hG_ hE_ A4.out) | (go_at_call 32; (with_reducible refine (CA4 _ ?sideG ?sideE).mono ?_); (case sideG => exact gle HG_.out (hz1 HB.out GE252.out)); (case sideE => exact perr_below PE_.out (hz (Below.refl _ _))); rintro e w11 ⟨rfl, hb⟩; replace HO258 := am (Kd.R_below (rz HO258.out) hb); replace BK252 := am (blk_below (bz BK252.out) hb); replace HB := am (below_step (hz1 HB.out GE252.out) hb); obtain ⟨hcz12_0, hcz12_1, hcz12_2, hcz12_3, hcz12_4⟩ := cs5 BK252.out; obtain ⟨hfz12_0, hfz12_1, hfz12_2, hfz12_3, hfz12_4⟩ := fs5 BK252.out) | ((with_reducible refine gate_callee (f := 30) rfl ?_); refine goesL_ (some 28) rfl rfl Tryd.func30 (by kernel_rfl) rfl #[.agg #[.int .i64 a1_0, .int .i64 a1_1, .int .i64 a1_2, .string a1_3, .slice A1_4 l1_4.length c1_4]] rfl lz ?_; (with_reducible refine (codec_Encode.calls k a1_0 a1_1 a1_2 a1_3 _ _ l1_4 t260 t263 _ ?side1 ?side2 A6.out).mono ?_); (case side1 => exact cz (Kd.C_below HR1_4.out HB.out)); (case side2 => exact HC1_4.out); rintro e w13 ⟨v261, rfl, ho0, hb⟩; refine ⟨_, rfl, ?_⟩; replace HO258 := am (Kd.R_below (rz HO258.out) hb); have HO262 := am (Kd.R_lower ho0 (below_size (hz1 HB.out GE252.out))); replace BK252 := am (blk_below (bz BK252.out) hb); replace HB := am (below_step (hz1 HB.out GE252.out) hb)))
   (try simp only [Act.put, List.setIfInBounds_toArray, List.set_cons_zero, List.set_cons_succ])
   go_cut [40] (fun v40 wc => ∃ (kq : Nat) (x40_7 : Bool), v40 = .bool x40_7 ∧ Aside0 (journal_Append.j0 kq l0 t255 t260 x40_7 = some (r1, r2)) ∧ Aside0 (kq ≤ k) ∧ Aside0 (Kd.R (Kd.int .u8) 5 wc w.heap.size (fun _ => True) v261 t260) ∧ Aside0 (wc.heap[gb252]? = some (.cells #[.int .i64 a1_0, .int .i64 a1_1, .int .i64 a1_2, .string a1_3, (.slice A1_4 l1_4.length c1_4)] 43 (0, 0))) ∧ Aside0 (Below w.heap.size w wc))
   case first =>
    have H := HC8.out
    clear HC8
    by_cases c14 : (t260.length : Int) > 2000
    ·
     rw [if_pos c14] at H
     have c14b0 : decide (2000 < (t260.length : Int)) = true := decide_eq_true c14
     have c14b1 : decide (2000 < t260.length) = true := decide_eq_true (by omega)
     clear c14
     (first | rw [c14b0] | (simp only [i64_w, i32_w]; rw [c14b0]) | skip)
     have H' := am H
     clear H
     obtain ⟨Ao15, co15, eo15⟩ := Kd.R_slice HO262.out
     subst eo15
     go_wp2
     go_meet
     case rel => exact ⟨_, (true), rfz, H', ⟨by first | omega | exact Nat.le_refl _⟩, ⟨rz HO262.out⟩, ⟨by (with_reducible repeat (first | refine blk_drewN ?_ _ | refine blk_drew ?_ | refine blk_alloc ?_ _)); exact BK252.out⟩, ⟨hz1 HB.out GE252.out⟩⟩
    ·
     rw [if_neg c14] at H
     have c14b0 : decide (2000 < (t260.length : Int)) = false := decide_eq_false c14
     have c14b1 : decide (2000 < t260.length) = false := decide_eq_false (by omega)
     clear c14
     (first | rw [c14b0] | (simp only [i64_w, i32_w]; rw [c14b0]) | skip)
     have H' := am H
     clear H
     obtain ⟨Ao16, co16, eo16⟩ := Kd.R_slice HO262.out
     subst eo16
     obtain ⟨Ao17, co17, eo17⟩ := Kd.R_slice HO258.out
     subst eo17
     go_wp2
     go_meet
     case rel => exact ⟨_, (decide ((t253.length : Int) ≥ 300)), rfz, H', ⟨by first | omega | exact Nat.le_refl _⟩, ⟨rz HO262.out⟩, ⟨by (with_reducible repeat (first | refine blk_drewN ?_ _ | refine blk_drew ?_ | refine blk_alloc ?_ _)); exact BK252.out⟩, ⟨hz1 HB.out GE252.out⟩⟩
   case rest =>
    clear HC8
    obtain ⟨kq, x40_7, rfl, HA, HJ7, HO_11, BK252, HB⟩ := hcut
    cases kq with
    | zero => exact absurd HA.out (by simp [journal_Append.j0])
    | succ kj7 =>
     have H := HA.out
     clear HA
     simp only [journal_Append.j0] at H
     by_cases c18 : x40_7 = true
     ·
      subst c18
      have H1 := H
      rw [if_pos rfl] at H1
      clear H
      have H := H1
      clear H1
      simp only [Option.some.injEq, Prod.mk.injEq] at H
      obtain ⟨rfl, rfl⟩ := H
      go_wp2
      go_ret2
      exact ⟨_, ew, nlz, hz1 HB.out GE252.out⟩
     ·
      replace c18 := Bool.eq_false_iff.mpr c18
      subst c18
      have H1 := H
      rw [if_neg (show ¬ (false = true) by decide)] at H1
      clear H
      have H := H1
      clear H1
      replace H := Option.bind_eq_some_iff.mp H
      obtain ⟨t264, A190, H⟩ := H
      try dsimp only at H
      have A19 := am A190
      clear A190
      replace H := it_ H
      obtain ⟨c20, H⟩ := H
      have LMc20 := am c20
      clear c20
      obtain ⟨y267, hy267⟩ : ∃ y_ : List Int, y_ = (t264 ++ t260) := ⟨_, rfl⟩
      replace H : ((bytes_Clone.f l0).bind fun t270 => (if t270.length + y267.length < 140737488355328 then ((some (t270 ++ y267 : List Int)).bind fun y273 => ((digest_Chain.f kj7 t255 y267).bind fun t276 => ((journal_big.f kj7 t276 8).bind fun t277 => (if y273.length + t277.length < 140737488355328 then (some ((y273 ++ t277), 0)) else (none))))) else (none))) = some (r1, r2) := by first | (rw [hy267]; with_reducible exact H) | (have H2_ := (Option.bind_some _ _).symm.trans H; rw [hy267]; with_reducible exact H2_) | (have H2_ := (Option.bind_some _ _).symm.trans H; with_reducible exact H2_) | with_reducible exact H | (rw [hy267]; exact H) | exact H
      have Ny267 := am hy267
      clear hy267
      replace H := Option.bind_eq_some_iff.mp H
      obtain ⟨t270, A210, H⟩ := H
      try dsimp only at H
      have A21 := am A210
      clear A210
      replace H := it_ H
      obtain ⟨c22, H⟩ := H
      have LMc22 := am c22
      clear c22
      obtain ⟨y273, hy273⟩ : ∃ y_ : List Int, y_ = (t270 ++ y267) := ⟨_, rfl⟩
      replace H : ((digest_Chain.f kj7 t255 y267).bind fun t276 => ((journal_big.f kj7 t276 8).bind fun t277 => (if y273.length + t277.length < 140737488355328 then (some ((y273 ++ t277), 0)) else (none)))) = some (r1, r2) := by first | (rw [hy273]; with_reducible exact H) | (have H2_ := (Option.bind_some _ _).symm.trans H; rw [hy273]; with_reducible exact H2_) | (have H2_ := (Option.bind_some _ _).symm.trans H; with_reducible exact H2_) | with_reducible exact H | (rw [hy273]; exact H) | exact H
      have Ny273 := am hy273
      clear hy273
      replace H := Option.bind_eq_some_iff.mp H
      obtain ⟨t276, A230, H⟩ := H
      try dsimp only at H
      have A23 := am A230
      clear A230
      replace H := Option.bind_eq_some_iff.mp H
      obtain ⟨t277, A240, H⟩ := H
      try dsimp only at H
      have A24 := am A240
      clear A240
      replace H := it_ H
      obtain ⟨c25, H⟩ := H
      have LMc25 := am c25
      clear c25
      obtain ⟨y280, hy280⟩ : ∃ y_ : List Int, y_ = (y273 ++ t277) := ⟨_, rfl⟩
      replace H : (some (y280, 0)) = some (r1, r2) := by first | (rw [hy280]; with_reducible exact H) | (have H2_ := (Option.bind_some _ _).symm.trans H; rw [hy280]; with_reducible exact H2_) | (have H2_ := (Option.bind_some _ _).symm.trans H; with_reducible exact H2_) | with_reducible exact H | (rw [hy280]; exact H) | exact H
      have Ny280 := am hy280
      clear hy280
      simp only [Option.some.injEq, Prod.mk.injEq] at H
      obtain ⟨rfl, rfl⟩ := H
      obtain ⟨Ao26, co26, eo26⟩ := Kd.R_slice HO_11.out
      subst eo26
      go_wp2_with (first | ((with_reducible refine gate_callee (f := 35) rfl ?_); refine goesL_ (some 44) rfl rfl Tryd.func35 (by kernel_rfl) rfl #[.int .u64 (IntKind.u64.wrap ((t260.length : Int))), .int .i64 4] rfl lz ?_; (with_reducible refine (journal_big.calls kj7 (IntKind.u64.wrap ((t260.length : Int))) 4 t264 _ A19.out).mono ?_); rintro e w27 ⟨v265, rfl, ho0, hb⟩; refine ⟨_, rfl, ?_⟩; have HO266 := am (Kd.R_lower (Kd.R_new' ho0 (Kd.R_lt (rz HO_11.out))) (below_size (hz1 HB.out GE252.out))); replace HO_11 := am (Kd.R_elder' (rz HO_11.out) (Kd.R_base ho0) hb); replace BK252 := am (blk_below (bz BK252.out) hb); replace HB := am (below_step (hz1 HB.out GE252.out) hb)) | ((with_reducible refine gate_builtin (b := .append) (xs := #[.tmp 44, .tmp 45]) rfl ?_); (try (refine gate_guard (by rfl) ?_; dsimp only)); at_builtin; refine Kd.R_append_rows (Kd.int .u8) (w0 := w) w.heap.size rfl (.tmp 44) (.tmp 45) 24 5 (.int .u8 0) 1 rfl Tryd.underlying24 info5 rfl (by decide) (by omega) v265 t264 t260 _ _ _ (fun k_ => some k_ ≠ (.slice Ao26 t260.length co26 : Value).ownBlock) (fun _ => False) rfl rfl ?aO ?aR (fun _ _ h => h) (fun _ h => h.elim) ?aF ?aB ?aS ?aL ?_; (case aR => exact cz (Kd.R_reads' HO_11.out).2.2); (case aB => exact (hz1 HB.out GE252.out)); (case aF => exact (fun k_ hk => Kd.fresh' (Kd.R_lt (rz HO_11.out)) k_ hk)); (case aO => exact (rz (Kd.R_mono HO266.out (fun _ hk => hk.2)))); (case aS => exact (below_size (hz1 HB.out GE252.out))); (case aL => have := LMc20.out; omega); intro v268 w28 ho hb hg hat; rw [← Ny267.out] at ho; replace HO_11 := am (Kd.R_after (ok := (fun _ => True)) (rz HO_11.out) hg hat); replace BK252 := am (blk_grown (bz BK252.out) hg (Kd.R_ne HO266.out BK252.out (by decide))); replace HB := am (hb); have HO269 := am (ho); clear HO266; clear ho hb hg hat) | ((with_reducible refine gate_callee (f := 36) rfl ?_); refine goesL_ (some 48) rfl rfl Tryd.func36 (by kernel_rfl) rfl #[.slice A0 l0.length c0] rfl lz ?_; (with_reducible refine (bytes_Clone.calls _ _ l0 t270 _ ?side1 ?side2 A21.out).mono ?_); (case side1 => exact cz (Kd.C_below HR0.out HB.out)); (case side2 => exact HC0.out); rintro e w29 ⟨v271, rfl, ho0, hb⟩; refine ⟨_, rfl, ?_⟩; have HO272 := am (Kd.R_lower (Kd.R_new' (Kd.R_new' ho0 (Kd.R_lt (rz HO_11.out))) (Kd.R_lt (rz HO269.out))) (below_size (hz1 HB.out GE252.out))); replace HO_11 := am (Kd.R_elder' (rz HO_11.out) (Kd.R_base ho0) hb); replace HO269 := am (Kd.R_elder' (rz HO269.out) (Kd.R_base ho0) hb); replace BK252 := am (blk_below (bz BK252.out) hb); replace HB := am (below_step (hz1 HB.out GE252.out) hb); obtain ⟨Ao31, co31, eo31⟩ := Kd.R_slice HO269.out; subst eo31) | ((with_reducible refine gate_builtin (b := .append) (xs := #[.tmp 48, .tmp 49]) rfl ?_); (try (refine gate_guard (by rfl) ?_; dsimp only)); at_builtin; refine Kd.R_append_rows (Kd.int .u8) (w0 := w) w.heap.size rfl (.tmp 48) (.tmp 49) 24 5 (.int .u8 0) 1 rfl Tryd.underlying24 info5 rfl (by decide) (by omega) v271 t270 y267 _ _ _ (fun k_ => some k_ ≠ (.slice Ao26 t260.length co26 : Value).ownBlock ∧ some k_ ≠ (.slice Ao31 y267.length co31 : Value).ownBlock) (fun _ => False) rfl rfl ?aO ?aR (fun _ _ h => h) (fun _ h => h.elim) ?aF ?aB ?aS ?aL ?_; (case aR => exact cz (Kd.R_reads' HO269.out).2.2); (case aB => exact (hz1 HB.out GE252.out)); (case aF => exact (fun k_ hk => ⟨Kd.fresh' (Kd.R_lt (rz HO_11.out)) k_ hk, Kd.fresh' (Kd.R_lt (rz HO269.out)) k_ hk⟩)); (case aO => exact (rz (Kd.R_mono HO272.out (fun _ hk => ⟨hk.1.2, hk.2⟩)))); (case aS => exact (below_size (hz1 HB.out GE252.out))); (case aL => have := LMc22.out; omega); intro v274 w30 ho hb hg hat; rw [← Ny273.out] at ho; replace HO_11 := am (Kd.R_after (ok := (fun k_ => some k_ ≠ (.slice Ao31 y267.length co31 : Value).ownBlock)) (rz (Kd.R_mono HO_11.out (fun _ hk => ⟨hk.1.2, hk.2⟩))) hg hat); replace BK252 := am (blk_grown (bz BK252.out) hg (Kd.R_ne HO272.out BK252.out (by decide))); replace HO269 := am (Kd.R_after (ok := (fun k_ => some k_ ≠ (.slice Ao26 t260.length co26 : Value).ownBlock)) (rz HO269.out) hg hat); replace HB := am (hb); have HO275 := am (ho); clear HO272; clear ho hb hg hat) | ((with_reducible refine gate_callee (f := 22) rfl ?_); refine goesL_ (some 53) rfl rfl Tryd.func22 (by kernel_rfl) rfl #[.int .u64 t255, .slice Ao31 y267.length co31] rfl lz ?_; (with_reducible refine (digest_Chain.calls kj7 t255 _ _ y267 t276 _ ?side1 ?side2 A23.out).mono ?_); (case side1 => exact cz (Kd.R_reads' HO269.out).2.2); (case side2 => exact (Kd.R_reads' HO269.out).2.1); rintro e w' ⟨rfl, ⟨nd, rfl⟩⟩; refine ⟨_, rfl, ?_⟩) | ((with_reducible refine gate_callee (f := 35) rfl ?_); refine goesL_ (some 54) rfl rfl Tryd.func35 (by kernel_rfl) rfl #[.int .u64 t276, .int .i64 8] rfl lz ?_; (with_reducible refine (journal_big.calls kj7 t276 8 t277 _ A24.out).mono ?_); rintro e w32 ⟨v278, rfl, ho0, hb⟩; refine ⟨_, rfl, ?_⟩; have HO279 := am (Kd.R_lower (Kd.R_new' (Kd.R_new' (Kd.R_new' ho0 (Kd.R_lt (rz HO_11.out))) (Kd.R_lt (rz HO269.out))) (Kd.R_lt (rz HO275.out))) (below_size (hz1 HB.out GE252.out))); replace HO_11 := am (Kd.R_elder' (rz HO_11.out) (Kd.R_base ho0) hb); replace HO269 := am (Kd.R_elder' (rz HO269.out) (Kd.R_base ho0) hb); replace HO275 := am (Kd.R_elder' (rz HO275.out) (Kd.R_base ho0) hb); replace BK252 := am (blk_below (bz BK252.out) hb); replace HB := am (below_step (hz1 HB.out GE252.out) hb); obtain ⟨Ao34, co34, eo34⟩ := Kd.R_slice HO279.out; subst eo34) | ((with_reducible refine gate_builtin (b := .append) (xs := #[.tmp 50, .tmp 54]) rfl ?_); (try (refine gate_guard (by rfl) ?_; dsimp only)); at_builtin; refine Kd.R_append_rows (Kd.int .u8) (w0 := w) w.heap.size rfl (.tmp 50) (.tmp 54) 24 5 (.int .u8 0) 1 rfl Tryd.underlying24 info5 rfl (by decide) (by omega) v274 y273 t277 _ _ _ (fun k_ => some k_ ≠ (.slice Ao26 t260.length co26 : Value).ownBlock ∧ some k_ ≠ (.slice Ao31 y267.length co31 : Value).ownBlock ∧ some k_ ≠ (.slice Ao34 t277.length co34 : Value).ownBlock) (fun _ => False) rfl rfl ?aO ?aR (fun _ _ h => h) (fun _ h => h.elim) ?aF ?aB ?aS ?aL ?_; (case aR => exact cz (Kd.R_reads' HO279.out).2.2); (case aB => exact (hz1 HB.out GE252.out)); (case aF => exact (fun k_ hk => ⟨Kd.fresh' (Kd.R_lt (rz HO_11.out)) k_ hk, Kd.fresh' (Kd.R_lt (rz HO269.out)) k_ hk, Kd.fresh' (Kd.R_lt (rz HO279.out)) k_ hk⟩)); (case aO => exact (rz (Kd.R_mono HO275.out (fun _ hk => ⟨hk.1.1, ⟨hk.1.2, hk.2⟩⟩)))); (case aS => exact (below_size (hz1 HB.out GE252.out))); (case aL => have := LMc25.out; omega); intro v281 w33 ho hb hg hat; rw [← Ny280.out] at ho; replace HO_11 := am (Kd.R_after (ok := (fun k_ => some k_ ≠ (.slice Ao31 y267.length co31 : Value).ownBlock ∧ some k_ ≠ (.slice Ao34 t277.length co34 : Value).ownBlock)) (rz (Kd.R_mono HO_11.out (fun _ hk => ⟨⟨hk.1.1, hk.2⟩, hk.1.2⟩))) hg hat); replace BK252 := am (blk_grown (bz BK252.out) hg (Kd.R_ne HO275.out BK252.out (by decide))); replace HO269 := am (Kd.R_after (ok := (fun k_ => some k_ ≠ (.slice Ao26 t260.length co26 : Value).ownBlock ∧ some k_ ≠ (.slice Ao34 t277.length co34 : Value).ownBlock)) (rz (Kd.R_mono HO269.out (fun _ hk => ⟨⟨hk.1.1, hk.2⟩, hk.1.2⟩))) hg hat); replace HO279 := am (Kd.R_after (ok := (fun k_ => some k_ ≠ (.slice Ao26 t260.length co26 : Value).ownBlock ∧ some k_ ≠ (.slice Ao31 y267.length co31 : Value).ownBlock)) (rz (Kd.R_mono HO279.out (fun _ hk => ⟨⟨hk.1.1.2, hk.1.2⟩, hk.2⟩))) hg hat); replace HB := am (hb); have HO282 := am (ho); clear HO275; clear ho hb hg hat))
      go_ret2
      exact ⟨_, ew, by (with_reducible repeat (first | apply Kd.R_alloc | apply Kd.R_drewN | apply Kd.R_drew)); exact Kd.R_mono HO282.out (fun _ hk => trivial), hz1 HB.out GE252.out⟩
  ·
   rw [if_neg c7] at H
   have c7b0 : (t263 == 0) = false := beq_eq_false_iff_ne.mpr c7
   have c7b1 : (t263 != 0) = true := bne_iff_ne.mpr c7
   simp only [Option.some.injEq, Prod.mk.injEq] at H
   obtain ⟨rfl, rfl⟩ := H
   go_enter Tryd.func19, Tryd.ntmps19
   go_wp2_with (first | ((with_reducible refine gate_dst (N := 3) rfl ?_); (try (refine gate_guard (by rfl) ?_; dsimp only)); refine box_event rfl (N := 3) rfl (cs := #[.int .i64 a1_0, .int .i64 a1_1, .int .i64 a1_2, .string a1_3, .slice A1_4 l1_4.length c1_4]) (t := 43) gz ?_; intro gb252 hg w35 hbox hb; have BK252 := am (hbox); have GW252 := am ((bs hg (hz HB.out) : w.heap.size ≤ gb252)); have GE252 := am ((bs hg (hz HB.out) : w.heap.size ≤ gb252)); replace HB := am (below_step (hz HB.out) hb); clear hb hbox hg) | ((with_reducible refine gate_callee (f := 31) rfl ?_); refine goesL_ (some 16) rfl rfl Tryd.func31 (by kernel_rfl) rfl #[.slice A0 l0.length c0] rfl lz ?_; (with_reducible refine (journal_read.calls k _ _ l0 t253 t254 t255 t256 _ ?side1 ?side2 A3.out).mono ?_); (case side1 => exact cz (Kd.C_below HR0.out HB.out)); (case side2 => exact HC0.out); rintro e w36 ⟨v257, vE_, rfl, hE_, ho0, hb⟩; have PE_ := am hE_; clear hE_; refine ⟨_, rfl, ?_⟩; have HO258 := am (Kd.R_lower (Kd.R_newB ho0 (g := gb252) (o := .cells #[.int .i64 a1_0, .int .i64 a1_1, .int .i64 a1_2, .string a1_3, .slice A1_4 l1_4.length c1_4] 43 (0, 0)) (bz BK252.out)) (below_size (hz1 HB.out GE252.out))); replace BK252 := am (blk_below (bz BK252.out) hb); replace HB := am (below_step (hz1 HB.out GE252.out) hb); (try simp only [errW_none, errW_some]); have CA4 := fun W hG_ hE_ => journal_code.calls t256 vE_ t259 W hG_ hE_ A4.out) | (go_at_call 32; (with_reducible refine (CA4 _ ?sideG ?sideE).mono ?_); (case sideG => exact gle HG_.out (hz1 HB.out GE252.out)); (case sideE => exact perr_below PE_.out (hz (Below.refl _ _))); rintro e w37 ⟨rfl, hb⟩; replace HO258 := am (Kd.R_below (rz HO258.out) hb); replace BK252 := am (blk_below (bz BK252.out) hb); replace HB := am (below_step (hz1 HB.out GE252.out) hb); obtain ⟨hcz38_0, hcz38_1, hcz38_2, hcz38_3, hcz38_4⟩ := cs5 BK252.out; obtain ⟨hfz38_0, hfz38_1, hfz38_2, hfz38_3, hfz38_4⟩ := fs5 BK252.out) | ((with_reducible refine gate_callee (f := 30) rfl ?_); refine goesL_ (some 28) rfl rfl Tryd.func30 (by kernel_rfl) rfl #[.agg #[.int .i64 a1_0, .int .i64 a1_1, .int .i64 a1_2, .string a1_3, .slice A1_4 l1_4.length c1_4]] rfl lz ?_; (with_reducible refine (codec_Encode.calls k a1_0 a1_1 a1_2 a1_3 _ _ l1_4 t260 t263 _ ?side1 ?side2 A6.out).mono ?_); (case side1 => exact cz (Kd.C_below HR1_4.out HB.out)); (case side2 => exact HC1_4.out); rintro e w39 ⟨v261, rfl, ho0, hb⟩; refine ⟨_, rfl, ?_⟩; replace HO258 := am (Kd.R_below (rz HO258.out) hb); have HO262 := am (Kd.R_lower ho0 (below_size (hz1 HB.out GE252.out))); replace BK252 := am (blk_below (bz BK252.out) hb); replace HB := am (below_step (hz1 HB.out GE252.out) hb)))
   go_ret2
   exact ⟨_, ew, nlz, hz1 HB.out GE252.out⟩
 ·
  rw [if_neg c5] at H
  have c5b0 : (t259 == 0) = false := beq_eq_false_iff_ne.mpr c5
  have c5b1 : (t259 != 0) = true := bne_iff_ne.mpr c5
  simp only [Option.some.injEq, Prod.mk.injEq] at H
  obtain ⟨rfl, rfl⟩ := H
  go_enter Tryd.func19, Tryd.ntmps19
  go_wp2_with (first | ((with_reducible refine gate_dst (N := 3) rfl ?_); (try (refine gate_guard (by rfl) ?_; dsimp only)); refine box_event rfl (N := 3) rfl (cs := #[.int .i64 a1_0, .int .i64 a1_1, .int .i64 a1_2, .string a1_3, .slice A1_4 l1_4.length c1_4]) (t := 43) gz ?_; intro gb252 hg w40 hbox hb; have BK252 := am (hbox); have GW252 := am ((bs hg (hz HB.out) : w.heap.size ≤ gb252)); have GE252 := am ((bs hg (hz HB.out) : w.heap.size ≤ gb252)); replace HB := am (below_step (hz HB.out) hb); clear hb hbox hg) | ((with_reducible refine gate_callee (f := 31) rfl ?_); refine goesL_ (some 16) rfl rfl Tryd.func31 (by kernel_rfl) rfl #[.slice A0 l0.length c0] rfl lz ?_; (with_reducible refine (journal_read.calls k _ _ l0 t253 t254 t255 t256 _ ?side1 ?side2 A3.out).mono ?_); (case side1 => exact cz (Kd.C_below HR0.out HB.out)); (case side2 => exact HC0.out); rintro e w41 ⟨v257, vE_, rfl, hE_, ho0, hb⟩; have PE_ := am hE_; clear hE_; refine ⟨_, rfl, ?_⟩; have HO258 := am (Kd.R_lower (Kd.R_newB ho0 (g := gb252) (o := .cells #[.int .i64 a1_0, .int .i64 a1_1, .int .i64 a1_2, .string a1_3, .slice A1_4 l1_4.length c1_4] 43 (0, 0)) (bz BK252.out)) (below_size (hz1 HB.out GE252.out))); replace BK252 := am (blk_below (bz BK252.out) hb); replace HB := am (below_step (hz1 HB.out GE252.out) hb); (try simp only [errW_none, errW_some]); have CA4 := fun W hG_ hE_ => journal_code.calls t256 vE_ t259 W hG_ hE_ A4.out) | (go_at_call 32; (with_reducible refine (CA4 _ ?sideG ?sideE).mono ?_); (case sideG => exact gle HG_.out (hz1 HB.out GE252.out)); (case sideE => exact perr_below PE_.out (hz (Below.refl _ _))); rintro e w42 ⟨rfl, hb⟩; replace HO258 := am (Kd.R_below (rz HO258.out) hb); replace BK252 := am (blk_below (bz BK252.out) hb); replace HB := am (below_step (hz1 HB.out GE252.out) hb)))
  go_ret2
  exact ⟨_, ew, nlz, hz1 HB.out GE252.out⟩

/-! ### journal_Read: function 11 -/
def journal_Read.f (k : Nat) (l0 : List Int) : Option ((List (S43)) × Int × Int) := (journal_read.f k l0).bind fun bt301 => ((journal_code.f bt301.2.2.2).bind fun t307 => (some (bt301.1, bt301.2.1, t307)))
theorem journal_Read.mono : ∀ a0 k, LeO (journal_Read.f k a0) (journal_Read.f (k + 1) a0) := by
 intro a0 k
 unfold journal_Read.f
 repeat' first
   | (with_reducible exact journal_read.mono _ _)
   | (with_reducible exact LeO.refl _)
   | (with_reducible exact LeO.none _)
   | (with_reducible refine LeO.ite ?_ ?_)
   | (with_reducible refine LeO.bind ?_ (fun _ => ?_))
   | exact journal_read.mono _ _
   | exact LeO.none _
   | refine LeO.ite ?_ ?_
   | refine LeO.bind ?_ (fun _ => ?_)
set_option maxHeartbeats 8000000 in
set_option maxRecDepth 100000 in
theorem journal_Read.calls (k : Nat) (A0 : Option Addr) (c0 : Nat) (l0 : List Int) (r1 : List (S43)) (r2 : Int) (r3 : Int) (w : World) (hG : GlE w) (hr0 : Kd.C (Kd.int .u8) w A0 l0.length l0) (hc0 : l0.length ≤ c0) (h : journal_Read.f k l0 = some (r1, r2, r3)) :
  Calls Tryd.prog 11 #[.slice A0 l0.length c0] w fun e w' => ∃ v0_ : Value, e = .returned (.tuple #[v0_, .int .i64 r2, .int .i64 r3]) ∧ Kd.R k43 43 w' w.heap.size (fun _ => True) v0_ r1 ∧ Below w.heap.size w w' := by
 have HR0 := am hr0
 have HC0 := am hc0
 clear hr0 hc0
 have HG_ := am hG
 clear hG
 have HB := am (Below.refl w.heap.size w)
 have H : ((journal_read.f k l0).bind fun bt301 => ((journal_code.f bt301.2.2.2).bind fun t307 => (some (bt301.1, bt301.2.1, t307)))) = some (r1, r2, r3) := h
 clear h
 replace H := Option.bind_eq_some_iff.mp H
 obtain ⟨⟨t301, t302, t303, t304⟩, A20, H⟩ := H
 try dsimp only at H
 have A2 := am A20
 clear A20
 replace H := Option.bind_eq_some_iff.mp H
 obtain ⟨t307, A30, H⟩ := H
 try dsimp only at H
 have A3 := am A30
 clear A30
 simp only [Option.some.injEq, Prod.mk.injEq] at H
 obtain ⟨rfl, rfl, rfl⟩ := H
 go_enter Tryd.func11, Tryd.ntmps11
 go_wp2_with (first | ((with_reducible refine gate_callee (f := 31) rfl ?_); refine goesL_ (some 11) rfl rfl Tryd.func31 (by kernel_rfl) rfl #[.slice A0 l0.length c0] rfl lz ?_; (with_reducible refine (journal_read.calls k _ _ l0 t301 t302 t303 t304 _ ?side1 ?side2 A2.out).mono ?_); (case side1 => exact cz HR0.out); (case side2 => exact HC0.out); rintro e w4 ⟨v305, vE_, rfl, hE_, ho0, hb⟩; have PE_ := am hE_; clear hE_; refine ⟨_, rfl, ?_⟩; have HO306 := am (Kd.R_lower ho0 (below_size (hz HB.out))); replace HB := am (below_step (hz HB.out) hb); (try simp only [errW_none, errW_some]); have CA3 := fun W hG_ hE_ => journal_code.calls t304 vE_ t307 W hG_ hE_ A3.out) | (go_at_call 32; (with_reducible refine (CA3 _ ?sideG ?sideE).mono ?_); (case sideG => exact gle HG_.out (hz HB.out)); (case sideE => exact perr_below PE_.out (hz (Below.refl _ _))); rintro e w5 ⟨rfl, hb⟩; replace HO306 := am (Kd.R_below (rz HO306.out) hb); replace HB := am (below_step (hz HB.out) hb)))
 go_ret3
 exact ⟨_, ew, rz HO306.out, hz HB.out⟩

/-! ### examboardlaw49_equal: function 13 -/
def examboardlaw49_equal.l0 : Nat → List Int → List Int → Int → Int → Option (Bool)
 | 0, _, _, _, _ => none
 | k + 1, x0, x1, x12, x13 => if x13 < x12 then (if 0 ≤ x13 then (if x13 < (x0.length : Int) then (if x13 < (x1.length : Int) then (if (rd x0 x13) = (rd x1 x13) then (examboardlaw49_equal.l0 k x0 x1 x12 (wrap64 (x13 + 1))) else (some false)) else (none)) else (none)) else (none)) else (some true)
def examboardlaw49_equal.f (k : Nat) (l0 : List Int) (l1 : List Int) : Option (Bool) := if (l0.length : Int) = (l1.length : Int) then (examboardlaw49_equal.l0 k l0 l1 (l0.length : Int) 0) else (some false)
theorem examboardlaw49_equal.mono_l : ∀ k, (∀ y0 y1 y2 y3, LeO (examboardlaw49_equal.l0 k y0 y1 y2 y3) (examboardlaw49_equal.l0 (k + 1) y0 y1 y2 y3))
 | 0 => fun _ _ _ _ r h => by simp [examboardlaw49_equal.l0] at h
 | k + 1 => by
  have ih0 := examboardlaw49_equal.mono_l k
  ·
   intro y0 y1 y2 y3
   unfold examboardlaw49_equal.l0
   repeat' first
   | (with_reducible exact ih0 _ _ _ _)
   | (with_reducible exact LeO.refl _)
   | (with_reducible exact LeO.none _)
   | (with_reducible refine LeO.ite ?_ ?_)
   | (with_reducible refine LeO.bind ?_ (fun _ => ?_))
   | exact ih0 _ _ _ _
   | exact LeO.none _
   | refine LeO.ite ?_ ?_
   | refine LeO.bind ?_ (fun _ => ?_)
theorem examboardlaw49_equal.mono : ∀ a0 a1 k, LeO (examboardlaw49_equal.f k a0 a1) (examboardlaw49_equal.f (k + 1) a0 a1) := by
 intro a0 a1 k
 have ih0 := examboardlaw49_equal.mono_l k
 unfold examboardlaw49_equal.f
 repeat' first
   | (with_reducible exact ih0 _ _ _ _)
   | (with_reducible exact LeO.refl _)
   | (with_reducible exact LeO.none _)
   | (with_reducible refine LeO.ite ?_ ?_)
   | (with_reducible refine LeO.bind ?_ (fun _ => ?_))
   | exact ih0 _ _ _ _
   | exact LeO.none _
   | refine LeO.ite ?_ ?_
   | refine LeO.bind ?_ (fun _ => ?_)
set_option maxHeartbeats 8000000 in
set_option maxRecDepth 100000 in
theorem examboardlaw49_equal.calls (k : Nat) (A0 : Option Addr) (c0 : Nat) (l0 : List Int) (A1 : Option Addr) (c1 : Nat) (l1 : List Int) (r : Bool) (w : World) (hr0 : Kd.C (Kd.int .u8) w A0 l0.length l0) (hc0 : l0.length ≤ c0) (hr1 : Kd.C (Kd.int .u8) w A1 l1.length l1) (hc1 : l1.length ≤ c1) (h : examboardlaw49_equal.f k l0 l1 = some r) :
  Calls Tryd.prog 13 #[.slice A0 l0.length c0, .slice A1 l1.length c1] w fun e w' => e = .returned (.bool r) ∧ Drawn0 w w' := by
 have HR0 := am hr0
 have HC0 := am hc0
 clear hr0 hc0
 have HR1 := am hr1
 have HC1 := am hc1
 clear hr1 hc1
 have H : (if (l0.length : Int) = (l1.length : Int) then (examboardlaw49_equal.l0 k l0 l1 (l0.length : Int) 0) else (some false)) = some r := h
 clear h
 by_cases c3 : (l0.length : Int) = (l1.length : Int)
 ·
  rw [if_pos c3] at H
  have c3b0 : ((l0.length : Int) == (l1.length : Int)) = true := beq_iff_eq.mpr c3
  have c3b1 : ((l0.length : Int) != (l1.length : Int)) = false := bne_eq_false_iff_eq.mpr c3
  have c3b2 : (l0.length == l1.length) = true := by first | simpa using c3 | (simp at c3 ⊢; omega)
  clear c3
  have H' := am H
  clear H
  go_enter Tryd.func13, Tryd.ntmps13
  go_wp2
  repeat (go_quiet (fail); try go_wp2)
  go_loopg [13] k (fun kq v13 w' => ∃ (x13_1 : Int), v13 = .int .i64 x13_1 ∧ Aside0 (examboardlaw49_equal.l0 kq l0 l1 (l0.length : Int) x13_1 = some r) ∧ Aside0 (kq ≤ k) ∧ Drawn0 w w')
  case atStart => exact ⟨(0), rfz, H', ⟨Nat.le_refl _⟩, by repeat (first | exact Drawn0.refl _ | apply Drawn0.step)⟩
  case round =>
   clear H'
   obtain ⟨x13_1, rfl, HA, HK1, ⟨m1, rfl⟩⟩ := hrel
   cases gk with
   | zero => exact absurd HA.out (by simp [examboardlaw49_equal.l0])
   | succ k1 =>
    have H := HA.out
    clear HA
    simp only [examboardlaw49_equal.l0] at H
    by_cases c4 : x13_1 < (l0.length : Int)
    ·
     rw [if_pos c4] at H
     have c4b0 : decide (x13_1 < (l0.length : Int)) = true := decide_eq_true c4
     clear c4
     replace H := it_ H
     obtain ⟨c5, H⟩ := H
     have c5b0 : decide (0 ≤ x13_1) = true := decide_eq_true c5
     clear c5
     replace H := it_ H
     obtain ⟨c6, H⟩ := H
     have c6b0 : decide (x13_1 < (l0.length : Int)) = true := decide_eq_true c6
     clear c6
     replace H := it_ H
     obtain ⟨c7, H⟩ := H
     have c7b0 : decide (x13_1 < (l1.length : Int)) = true := decide_eq_true c7
     clear c7
     by_cases c8 : (rd l0 x13_1) = (rd l1 x13_1)
     ·
      rw [if_pos c8] at H
      have c8b0 : ((rd l0 x13_1) == (rd l1 x13_1)) = true := beq_iff_eq.mpr c8
      have c8b1 : ((rd l0 x13_1) != (rd l1 x13_1)) = false := bne_eq_false_iff_eq.mpr c8
      clear c8
      have H' := am H
      clear H
      have p316 : 0 ≤ (x13_1 : Int) := of_decide_eq_true az
      have q316 : x13_1 < (l0.length : Int) := of_decide_eq_true az
      obtain ⟨ad316, e316, hx316_0⟩ := Kd.at_int HR0.out x13_1 p316 q316
      cases e316
      replace p316 := eq_true p316
      replace q316 := eq_true q316
      have p317 : 0 ≤ (x13_1 : Int) := of_decide_eq_true az
      have q317 : x13_1 < (l1.length : Int) := of_decide_eq_true az
      obtain ⟨ad317, e317, hx317_0⟩ := Kd.at_int HR1.out x13_1 p317 q317
      cases e317
      replace p317 := eq_true p317
      replace q317 := eq_true q317
      go_wp2
      repeat (go_quiet (fail); try go_wp2)
      go_roundg k1
      case measure => have := HK1.out; omega
      case rel => exact ⟨(wrap64 (x13_1 + 1)), rfz, H', ⟨by have := HK1.out; omega⟩, by repeat (first | exact Drawn0.refl _ | apply Drawn0.step)⟩
     ·
      rw [if_neg c8] at H
      have c8b0 : ((rd l0 x13_1) == (rd l1 x13_1)) = false := beq_eq_false_iff_ne.mpr c8
      have c8b1 : ((rd l0 x13_1) != (rd l1 x13_1)) = true := bne_iff_ne.mpr c8
      obtain rfl := Option.some.inj H
      have p316 : 0 ≤ (x13_1 : Int) := of_decide_eq_true az
      have q316 : x13_1 < (l0.length : Int) := of_decide_eq_true az
      obtain ⟨ad316, e316, hx316_0⟩ := Kd.at_int HR0.out x13_1 p316 q316
      cases e316
      replace p316 := eq_true p316
      replace q316 := eq_true q316
      have p317 : 0 ≤ (x13_1 : Int) := of_decide_eq_true az
      have q317 : x13_1 < (l1.length : Int) := of_decide_eq_true az
      obtain ⟨ad317, e317, hx317_0⟩ := Kd.at_int HR1.out x13_1 p317 q317
      cases e317
      replace p317 := eq_true p317
      replace q317 := eq_true q317
      go_wp2
      repeat (go_quiet (fail); try go_wp2)
      go_ret
      exact ⟨by first | rfl | (simp; done) | (simp [*]; done), by repeat (first | exact Drawn0.refl _ | apply Drawn0.step)⟩
    ·
     rw [if_neg c4] at H
     have c4b0 : decide (x13_1 < (l0.length : Int)) = false := decide_eq_false c4
     clear c4
     obtain rfl := Option.some.inj H
     go_wp2
     repeat (go_quiet (fail); try go_wp2)
     go_ret
     exact ⟨by first | rfl | (simp; done) | (simp [*]; done), by repeat (first | exact Drawn0.refl _ | apply Drawn0.step)⟩
 ·
  rw [if_neg c3] at H
  have c3b0 : ((l0.length : Int) == (l1.length : Int)) = false := beq_eq_false_iff_ne.mpr c3
  have c3b1 : ((l0.length : Int) != (l1.length : Int)) = true := bne_iff_ne.mpr c3
  have c3b2 : (l0.length == l1.length) = false := by first | simpa using c3 | (simp at c3 ⊢; omega)
  obtain rfl := Option.some.inj H
  go_enter Tryd.func13, Tryd.ntmps13
  go_wp2
  repeat (go_quiet (fail); try go_wp2)
  go_ret
  exact ⟨by first | rfl | (simp; done) | (simp [*]; done), by repeat (first | exact Drawn0.refl _ | apply Drawn0.step)⟩

/-! ### journal_Count: function 15 -/
def journal_Count.f (k : Nat) (l0 : List Int) : Option (Int) := (journal_read.f k l0).bind fun bt331 => (some (bt331.1.length : Int))
theorem journal_Count.mono : ∀ a0 k, LeO (journal_Count.f k a0) (journal_Count.f (k + 1) a0) := by
 intro a0 k
 unfold journal_Count.f
 repeat' first
   | (with_reducible exact journal_read.mono _ _)
   | (with_reducible exact LeO.refl _)
   | (with_reducible exact LeO.none _)
   | (with_reducible refine LeO.ite ?_ ?_)
   | (with_reducible refine LeO.bind ?_ (fun _ => ?_))
   | exact journal_read.mono _ _
   | exact LeO.none _
   | refine LeO.ite ?_ ?_
   | refine LeO.bind ?_ (fun _ => ?_)
set_option maxHeartbeats 8000000 in
set_option maxRecDepth 100000 in
theorem journal_Count.calls (k : Nat) (A0 : Option Addr) (c0 : Nat) (l0 : List Int) (r : Int) (w : World) (hr0 : Kd.C (Kd.int .u8) w A0 l0.length l0) (hc0 : l0.length ≤ c0) (h : journal_Count.f k l0 = some r) :
  Calls Tryd.prog 15 #[.slice A0 l0.length c0] w fun e w' => e = .returned (.int .i64 r) ∧ Below w.heap.size w w' := by
 have HR0 := am hr0
 have HC0 := am hc0
 clear hr0 hc0
 have HB := am (Below.refl w.heap.size w)
 have H : ((journal_read.f k l0).bind fun bt331 => (some (bt331.1.length : Int))) = some r := h
 clear h
 replace H := Option.bind_eq_some_iff.mp H
 obtain ⟨⟨t331, t332, t333, t334⟩, A20, H⟩ := H
 try dsimp only at H
 have A2 := am A20
 clear A20
 obtain rfl := Option.some.inj H
 go_enter Tryd.func15, Tryd.ntmps15
 go_wp2_with (first | ((with_reducible refine gate_callee (f := 31) rfl ?_); refine goesL_ (some 9) rfl rfl Tryd.func31 (by kernel_rfl) rfl #[.slice A0 l0.length c0] rfl lz ?_; (with_reducible refine (journal_read.calls k _ _ l0 t331 t332 t333 t334 _ ?side1 ?side2 A2.out).mono ?_); (case side1 => exact cz HR0.out); (case side2 => exact HC0.out); rintro e w3 ⟨v335, vE_, rfl, hE_, ho0, hb⟩; have PE_ := am hE_; clear hE_; refine ⟨_, rfl, ?_⟩; have HO336 := am (Kd.R_lower ho0 (below_size (hz HB.out))); replace HB := am (below_step (hz HB.out) hb); (try simp only [errW_none, errW_some]); obtain ⟨Ao4, co4, eo4⟩ := Kd.R_slice HO336.out; subst eo4))
 go_ret
 exact ⟨ez, hz HB.out⟩

/-! ### journal_Last: function 18 -/
def journal_Last.f (k : Nat) (l0 : List Int) : Option (Int × Int) := (journal_read.f k l0).bind fun bt337 => ((journal_code.f bt337.2.2.2).bind fun t343 => (if t343 = 0 then (some (bt337.2.2.1, 0)) else (some (0, t343))))
theorem journal_Last.mono : ∀ a0 k, LeO (journal_Last.f k a0) (journal_Last.f (k + 1) a0) := by
 intro a0 k
 unfold journal_Last.f
 repeat' first
   | (with_reducible exact journal_read.mono _ _)
   | (with_reducible exact LeO.refl _)
   | (with_reducible exact LeO.none _)
   | (with_reducible refine LeO.ite ?_ ?_)
   | (with_reducible refine LeO.bind ?_ (fun _ => ?_))
   | exact journal_read.mono _ _
   | exact LeO.none _
   | refine LeO.ite ?_ ?_
   | refine LeO.bind ?_ (fun _ => ?_)
set_option maxHeartbeats 8000000 in
set_option maxRecDepth 100000 in
theorem journal_Last.calls (k : Nat) (A0 : Option Addr) (c0 : Nat) (l0 : List Int) (r1 : Int) (r2 : Int) (w : World) (hG : GlE w) (hr0 : Kd.C (Kd.int .u8) w A0 l0.length l0) (hc0 : l0.length ≤ c0) (h : journal_Last.f k l0 = some (r1, r2)) :
  Calls Tryd.prog 18 #[.slice A0 l0.length c0] w fun e w' => e = .returned (.tuple #[.int .u64 r1, .int .i64 r2]) ∧ Below w.heap.size w w' := by
 have HR0 := am hr0
 have HC0 := am hc0
 clear hr0 hc0
 have HG_ := am hG
 clear hG
 have HB := am (Below.refl w.heap.size w)
 have H : ((journal_read.f k l0).bind fun bt337 => ((journal_code.f bt337.2.2.2).bind fun t343 => (if t343 = 0 then (some (bt337.2.2.1, 0)) else (some (0, t343))))) = some (r1, r2) := h
 clear h
 replace H := Option.bind_eq_some_iff.mp H
 obtain ⟨⟨t337, t338, t339, t340⟩, A20, H⟩ := H
 try dsimp only at H
 have A2 := am A20
 clear A20
 replace H := Option.bind_eq_some_iff.mp H
 obtain ⟨t343, A30, H⟩ := H
 try dsimp only at H
 have A3 := am A30
 clear A30
 by_cases c4 : t343 = 0
 ·
  rw [if_pos c4] at H
  have c4b0 : (t343 == 0) = true := beq_iff_eq.mpr c4
  have c4b1 : (t343 != 0) = false := bne_eq_false_iff_eq.mpr c4
  clear c4
  simp only [Option.some.injEq, Prod.mk.injEq] at H
  obtain ⟨rfl, rfl⟩ := H
  go_enter Tryd.func18, Tryd.ntmps18
  go_wp2_with (first | ((with_reducible refine gate_callee (f := 31) rfl ?_); refine goesL_ (some 11) rfl rfl Tryd.func31 (by kernel_rfl) rfl #[.slice A0 l0.length c0] rfl lz ?_; (with_reducible refine (journal_read.calls k _ _ l0 t337 t338 t339 t340 _ ?side1 ?side2 A2.out).mono ?_); (case side1 => exact cz HR0.out); (case side2 => exact HC0.out); rintro e w5 ⟨v341, vE_, rfl, hE_, ho0, hb⟩; have PE_ := am hE_; clear hE_; refine ⟨_, rfl, ?_⟩; have HO342 := am (Kd.R_lower ho0 (below_size (hz HB.out))); replace HB := am (below_step (hz HB.out) hb); (try simp only [errW_none, errW_some]); have CA3 := fun W hG_ hE_ => journal_code.calls t340 vE_ t343 W hG_ hE_ A3.out) | (go_at_call 32; (with_reducible refine (CA3 _ ?sideG ?sideE).mono ?_); (case sideG => exact gle HG_.out (hz HB.out)); (case sideE => exact perr_below PE_.out (hz (Below.refl _ _))); rintro e w6 ⟨rfl, hb⟩; replace HO342 := am (Kd.R_below (rz HO342.out) hb); replace HB := am (below_step (hz HB.out) hb)))
  go_ret2
  exact ⟨ez, hz HB.out⟩
 ·
  rw [if_neg c4] at H
  have c4b0 : (t343 == 0) = false := beq_eq_false_iff_ne.mpr c4
  have c4b1 : (t343 != 0) = true := bne_iff_ne.mpr c4
  simp only [Option.some.injEq, Prod.mk.injEq] at H
  obtain ⟨rfl, rfl⟩ := H
  go_enter Tryd.func18, Tryd.ntmps18
  go_wp2_with (first | ((with_reducible refine gate_callee (f := 31) rfl ?_); refine goesL_ (some 11) rfl rfl Tryd.func31 (by kernel_rfl) rfl #[.slice A0 l0.length c0] rfl lz ?_; (with_reducible refine (journal_read.calls k _ _ l0 t337 t338 t339 t340 _ ?side1 ?side2 A2.out).mono ?_); (case side1 => exact cz HR0.out); (case side2 => exact HC0.out); rintro e w7 ⟨v341, vE_, rfl, hE_, ho0, hb⟩; have PE_ := am hE_; clear hE_; refine ⟨_, rfl, ?_⟩; have HO342 := am (Kd.R_lower ho0 (below_size (hz HB.out))); replace HB := am (below_step (hz HB.out) hb); (try simp only [errW_none, errW_some]); have CA3 := fun W hG_ hE_ => journal_code.calls t340 vE_ t343 W hG_ hE_ A3.out) | (go_at_call 32; (with_reducible refine (CA3 _ ?sideG ?sideE).mono ?_); (case sideG => exact gle HG_.out (hz HB.out)); (case sideE => exact perr_below PE_.out (hz (Below.refl _ _))); rintro e w8 ⟨rfl, hb⟩; replace HO342 := am (Kd.R_below (rz HO342.out) hb); replace HB := am (below_step (hz HB.out) hb)))
  go_ret2
  exact ⟨ez, hz HB.out⟩

end Go.Proofs.YteeggfnailpcpaaDoor.Q
