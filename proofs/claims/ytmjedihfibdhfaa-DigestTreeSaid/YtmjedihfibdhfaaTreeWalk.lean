/- DigestTree's walk: the call, for an array of 16 digests and a list, from what Root and Number of the program answer. -/
import Derived.Test.YtmjedihfibdhfaaTree
import Derived.Deep.RegionHeld3
import Derived.Deep.DrawnRows
namespace Go.Proofs.Ytmjedihfibdhfaa.TreeLaw
open Go.RowKit Go.Proofs.Ytmjedihfibdhfaa.Q Go.Proofs.YtmjedihfibdhfaaW.PrintWords Go.Proofs.YtmjedihfibdhfaaW.PrintLast Go.Proofs.YtmjedihfibdhfaaW.PrintMore Go.Proofs.Ytmjedihfibdhfaa.Dig
attribute [local go_sem ↓] Go.wp_at_zero Go.wp_at_succ

/-- Rows that can be read, in a world whose old part is as it was. -/
structure Hold (w : World) (rows : List (Option Addr × List Int)) (W : World) : Prop where
  below : Below w.heap.size w W
  reads : ∀ x ∈ rows, Kd.C (Kd.int .u64) W x.1 x.2.length x.2
theorem Hold.step {w W W' : World} {rows : List (Option Addr × List Int)} (h : Hold w rows W) (hb : Below W.heap.size W W') : Hold w rows W' :=
  ⟨below_step h.below hb, fun x hx => Kd.C_below (h.reads x hx) hb⟩
/-- What a region holds: the cell that it loads, and the rows. -/
theorem held_step {w W W' : World} {rows : List (Option Addr × List Int)} {p : Addr} {v : Value} (h : W.cell? p = some v ∧ Hold w rows W) (hb : Below W.heap.size W W') : W'.cell? p = some v ∧ Hold w rows W' :=
  ⟨pw_cell_below hb h.1, h.2.step hb⟩
theorem held_drew {w W : World} {rows : List (Option Addr × List Int)} {p : Addr} {v : Value} (h : W.cell? p = some v ∧ Hold w rows W) (n : Nat) : (W.drewN n).cell? p = some v ∧ Hold w rows (W.drewN n) :=
  held_step h (pw_below_drewN (Below.refl _ _) n)
/-- The array's box. -/
theorem box_cell (w : World) (T : TypeId) (l : List Int) (j : Nat) (hj : j < l.length) : (w.alloc (.cells (l.map (Value.int .u64)).toArray T)).cell? ⟨w.heap.size, j, none⟩ = some (.int .u64 (l.getD j 0)) := by
  rw [World.cell?_alloc_new]
  simp [hj]
theorem box_reads (w : World) (T : TypeId) (l : List Int) (n : Nat) (hn : n ≤ l.length) (hl : l.length ≤ 16) : Kd.C (Kd.int .u64) (w.alloc (.cells (l.map (Value.int .u64)).toArray T)) (some ⟨w.heap.size, 0, none⟩) n (l.take n) := by
  refine Kd.C_of_reads (d := (0 : Int)) (h1 := fun _ => rfl) ⟨by rw [List.length_take]; omega, by omega, fun _ => ⟨_, rfl, fun j hj => ?_⟩⟩
  rw [add_plain, box_cell w T l j (by omega)]
  congr 2
  rw [List.getD_eq_getElem?_getD, List.getD_eq_getElem?_getD, List.getElem?_take, if_pos hj]
theorem hs_step {w4 W W' : World} {p : Addr} {v : Value} (h : W.cell? p = some v ∧ Aside0 (Below w4.heap.size w4 W)) (hb : Below W.heap.size W W') : W'.cell? p = some v ∧ Aside0 (Below w4.heap.size w4 W') :=
  ⟨pw_cell_below hb h.1, ⟨below_step h.2.out hb⟩⟩
theorem cut_box (p : Addr) (N : Nat) (h : N ≤ 16) (W : World) : (Instr.sliceAt 32 (.pointer (some p)) none (some (.int .i64 (N : Int))) none).run Try.prog W = .ok (.slice (some p) N 16) W := by
  have e : Try.prog.arrayLen 32 = 16 := by kernel_rfl
  rw [Go.run_sliceAt_array_h (P := Try.prog) W 32 p Try.underlying32 .i64 (N : Int) (by omega) (by rw [e]; omega)]
  simp [go_sem, slicedAt, Try.underlying32]
set_option maxHeartbeats 4000000 in
theorem empty_calls (a0 a1 a2 a3 a4 a5 a6 a7 a8 a9 a10 a11 a12 a13 a14 a15 kk : Int) (A2 : Option Addr) (c2 : Nat) (w : World) (hk0 : 0 ≤ kk) (hk : kk < 256) (u0 : U64 a0) :
    Calls Try.prog 5 #[.agg #[.int .u64 a0, .int .u64 a1, .int .u64 a2, .int .u64 a3, .int .u64 a4, .int .u64 a5, .int .u64 a6, .int .u64 a7, .int .u64 a8, .int .u64 a9, .int .u64 a10, .int .u64 a11, .int .u64 a12, .int .u64 a13, .int .u64 a14, .int .u64 a15], .int .u8 kk, .slice A2 0 c2] w fun e w' => e = .returned (.bool true) ∧ Below w.heap.size w w' := by
  obtain ⟨k, r0, r1, h0, h1, h2, e0, e1⟩ : ∃ (k : Nat) (r0 r1 : Int), digest_Root.f k [] = some r0 ∧ digest_Root.f k [a0] = some r1 ∧ examboardlaw11_awake.f k = some true ∧ (r0 == 14695981039346656037) = true ∧ (r1 == a0) = true := by
    obtain ⟨K, hK⟩ := Root_is (l := []) (by intro x hx; cases hx) (by simp)
    obtain ⟨M, hM⟩ := Root_is (l := [a0]) (by intro x hx; rw [List.mem_singleton.1 hx]; exact u0) (by simp)
    refine ⟨K + M + 40, _, _, hK _ (by omega), hM _ (by omega), awake_is (by omega), by decide, ?_⟩
    rw [if_neg (by simp), root_one rfl]
    exact beq_self_eq_true _
  have R0 : Aside0 (∀ W, Calls Try.prog 10 #[.slice none 0 0] W (fun e w' => e = .returned (.int .u64 r0) ∧ Below W.heap.size W w')) := ⟨fun W => digest_Root.calls k none 0 [] r0 W (Kd.C_nil _ _) (Nat.le_refl _) h0⟩
  have R1 : Aside0 (∀ W, Kd.C (Kd.int .u64) W (some ⟨w.heap.size, 0, none⟩) 1 [a0] → Calls Try.prog 10 #[.slice (some ⟨w.heap.size, 0, none⟩) 1 16] W (fun e w' => e = .returned (.int .u64 r1) ∧ Below W.heap.size W w')) := ⟨fun W hr => digest_Root.calls k (some ⟨w.heap.size, 0, none⟩) 16 [a0] r1 W hr (show 1 ≤ 16 by omega) h1⟩
  have R2 := Aside0.mk (fun W => examboardlaw11_awake.calls k true W h2)
  have bx := Aside0.mk (box_reads w 32 [a0, a1, a2, a3, a4, a5, a6, a7, a8, a9, a10, a11, a12, a13, a14, a15] 1 (show 1 ≤ 16 by omega) (Nat.le_refl 16))
  have bc := Aside0.mk (box_cell w 32 [a0, a1, a2, a3, a4, a5, a6, a7, a8, a9, a10, a11, a12, a13, a14, a15] 0 (show 0 < 16 by omega))
  clear h0 h1 h2 u0
  go_enter Try.func5, Try.ntmps5
  go_wp2_with fail
  go_region_held3 (fun w' => w'.cell? ⟨w.heap.size, 0, none⟩ = some (.int .u64 a0) ∧ Hold w [(some ⟨w.heap.size, 0, none⟩, [a0])] w') (first | exact held_step (by assumption) (by assumption) | exact held_step ⟨bc.out, ⟨below_alloc (Below.refl _ _) _, fun x hx => by rw [List.mem_singleton.1 hx]; exact bx.out⟩⟩ (below_drew (Below.refl _ _)))
    (first | (go_at_call 10; (with_reducible refine (R0.out _).mono ?_); rintro e w' ⟨rfl, hb⟩) | (go_at_call 10; (with_reducible refine (R1.out _ ?hr).mono ?_); (case hr => exact (And.right (by assumption) : Hold _ [(some ⟨w.heap.size, 0, none⟩, [a0])] _).reads _ (List.mem_singleton.2 rfl)); rintro e w' ⟨rfl, hb⟩) | (go_at_call 12; (with_reducible refine (R2.out _).mono ?_); rintro e w' ⟨rfl, hb⟩))
  go_wp2
  go_ret
  exact ⟨rfl, (And.right (by assumption) : Hold w [(some ⟨w.heap.size, 0, none⟩, [a0])] _).below⟩
set_option maxHeartbeats 4000000 in
theorem full_calls (a0 a1 a2 a3 a4 a5 a6 a7 a8 a9 a10 a11 a12 a13 a14 a15 kk : Int) (N : Nat) (p2 : Addr) (c2 len : Nat) (b0 : Int) (bs : List Int) (w : World) (hk0 : 0 ≤ kk) (hk : kk < 256) (hN : IntKind.i64.wrap (2 ^ (kk % 5).toNat) = (N : Int)) (hN1 : 1 ≤ N) (hN16 : N ≤ 16) (hlen : 0 < len) (hcut : (len : Int) ≤ (N : Int)) (hc2 : len ≤ c2) (hrb : Kd.C (Kd.int .u64) w (some p2) len bs) (hb0 : w.cell? p2 = some (.int .u64 b0))
    (k : Nat) (r1 r2 r3 r4 r5 r6 : Int) (h1 : digest_Root.f k (List.take N [a0, a1, a2, a3, a4, a5, a6, a7, a8, a9, a10, a11, a12, a13, a14, a15] ++ bs) = some r1) (h2 : digest_Root.f k (List.take N [a0, a1, a2, a3, a4, a5, a6, a7, a8, a9, a10, a11, a12, a13, a14, a15]) = some r2) (h3 : digest_Number.f k 14695981039346656037 r2 = some r3) (h4 : digest_Root.f k bs = some r4) (h5 : digest_Number.f k r3 r4 = some r5) (h6 : digest_Root.f k (bs.take 1) = some r6) (h7 : examboardlaw11_awake.f k = some true) (e1 : (r1 == r5) = true) (e2 : (r6 == b0) = true) :
    Calls Try.prog 5 #[.agg #[.int .u64 a0, .int .u64 a1, .int .u64 a2, .int .u64 a3, .int .u64 a4, .int .u64 a5, .int .u64 a6, .int .u64 a7, .int .u64 a8, .int .u64 a9, .int .u64 a10, .int .u64 a11, .int .u64 a12, .int .u64 a13, .int .u64 a14, .int .u64 a15], .int .u8 kk, (.slice (some p2) len c2)] w fun e w' => e = .returned (.bool true) ∧ Below w.heap.size w w' := by
  have hl0 : decide (len = 0) = false := by simp; omega
  have hl0b : ((len : Int) == 0) = false := by simp; omega
  have hle : decide ((N : Int) < (len : Int)) = false := by simp; omega
  have hleN : decide (N < len) = false := by simp; omega
  have hcb := cut_box ⟨w.heap.size, 0, none⟩ N hN16
  have hs23 : (Try.prog.info? 23).map (fun i => (i.zero, i.size, i.bytes)) = some (some (.int .u64 0), 1, 8) := by kernel_rfl
  have G1 := Aside0.mk h1; have G2 := Aside0.mk h2; have G3 := Aside0.mk h3; have G4 := Aside0.mk h4; have G5 := Aside0.mk h5; have G6 := Aside0.mk h6; have G7 := Aside0.mk h7; have HB0 := Aside0.mk hb0; have E1 := Aside0.mk e1; have E2 := Aside0.mk e2
  clear h1 h2 h3 h4 h5 h6 h7 hb0 e1 e2
  have bx := Aside0.mk (box_reads w 32 [a0, a1, a2, a3, a4, a5, a6, a7, a8, a9, a10, a11, a12, a13, a14, a15] N hN16 (Nat.le_refl 16))
  have H23 := Aside0.mk hs23
  clear hs23
  go_enter Try.func5, Try.ntmps5
  go_upto_region 6 with (fail)
  obtain ⟨w1, hw1⟩ : ∃ W, W = w.alloc (Obj.cells #[.int .u64 a0, .int .u64 a1, .int .u64 a2, .int .u64 a3, .int .u64 a4, .int .u64 a5, .int .u64 a6, .int .u64 a7, .int .u64 a8, .int .u64 a9, .int .u64 a10, .int .u64 a11, .int .u64 a12, .int .u64 a13, .int .u64 a14, .int .u64 a15] 32) := ⟨_, rfl⟩
  rw [← hw1]
  have bx1 : Aside0 (Kd.C (Kd.int .u64) w1 (some ⟨w.heap.size, 0, none⟩) N (List.take N [a0, a1, a2, a3, a4, a5, a6, a7, a8, a9, a10, a11, a12, a13, a14, a15])) := ⟨by rw [hw1]; exact bx.out⟩
  have bw1 : Aside0 (Below w.heap.size w w1) := ⟨by rw [hw1]; exact below_alloc (Below.refl _ _) _⟩
  have HR2 : Aside0 (Kd.C (Kd.int .u64) w1 (some p2) len bs) := ⟨Kd.C_below hrb bw1.out⟩
  have LL : Aside0 ((List.take N [a0, a1, a2, a3, a4, a5, a6, a7, a8, a9, a10, a11, a12, a13, a14, a15]).length = N) := ⟨by rw [List.length_take]; exact Nat.min_eq_left hN16⟩
  generalize hal : List.take N [a0, a1, a2, a3, a4, a5, a6, a7, a8, a9, a10, a11, a12, a13, a14, a15] = al at bx1 LL
  have HAL := Aside0.mk hal
  have HLB : Aside0 (bs.length = len) := ⟨hrb.1⟩
  clear hw1 bx hal hrb
  go_wp2_with (first | ((with_reducible refine gate_dst (N := 34) rfl ?_); refine Kd.R_lit (Kd.int .u64) (w0 := w1) w1.heap.size 23 ?hg (N := 34) ?hd (xs := ([] : List Int)) (inner := []) (ok := fun _ => True) (okp := fun _ => True) ?hr ?hp (fun _ hk => hk) trivial (Below.refl _ _) (Nat.le_refl _) (by simp) ?_; (case hd => rfl); (case hg => rfl); (case hr => first | (go_simp; done) | (go_simp; rfl)); (case hp => exact (Reps.none _ _)); intro v2 w2 ho hb hg_ hnew_; clear hg_ hnew_; have HO2 := Aside0.mk ho; have HB2 := Aside0.mk hb; clear ho hb) | ((with_reducible refine gate_builtin (b := .append) (xs := #[.tmp 34, .tmp 36]) rfl ?_); at_builtin; refine Kd.R_append_rows (Kd.int .u64) (w0 := w1) w1.heap.size rfl (.tmp 34) (.tmp 36) 22 23 (.int .u64 0) 8 rfl Try.underlying22 H23.out rfl (by decide) (by omega) v2 [] al _ _ _ (fun _ => True) (fun _ => False) rfl rfl ?aO ?aR (fun _ _ h => h) (fun _ h => h.elim) ?aF ?aB ?aS ?aL ?_; (case aR => exact Kd.C_below bx1.out HB2.out); (case aB => exact HB2.out); (case aF => exact (fun _ _ => trivial)); (case aO => exact HO2.out); (case aS => exact HB2.out.size); (case aL => simp; omega); intro v3 w3 ho hb hg hat; clear hg hat; have HO3 := Aside0.mk ho; have HB3 := Aside0.mk hb; clear ho hb HO2 HB2) | ((with_reducible refine gate_builtin (b := .append) (xs := #[.tmp 38, .tmp 39]) rfl ?_); at_builtin; refine Kd.R_append_rows (Kd.int .u64) (w0 := w1) w1.heap.size rfl (.tmp 38) (.tmp 39) 22 23 (.int .u64 0) 8 rfl Try.underlying22 H23.out rfl (by decide) (by omega) v3 ([] ++ al) bs _ _ _ (fun _ => True) (fun _ => False) rfl rfl ?aO ?aR (fun _ _ h => h) (fun _ h => h.elim) ?aF ?aB ?aS ?aL ?_; (case aR => exact Kd.C_below HR2.out HB3.out); (case aB => exact HB3.out); (case aF => exact (fun _ _ => trivial)); (case aO => exact HO3.out); (case aS => exact HB3.out.size); (case aL => have := LL.out; simp; omega); intro v4 w4 ho hb hg hat; clear hg hat; have HO4 := Aside0.mk ho; have HB4 := Aside0.mk hb; clear ho hb HO3 HB3; obtain ⟨A4, c4, e4⟩ := Kd.R_slice HO4.out; subst e4))
  have hl4 := (Kd.R_reads' HO4.out)
  have C4 : Aside0 (Kd.C (Kd.int .u64) w4 A4 (al.length + bs.length) (al ++ bs)) := ⟨by have h := hl4.2.2; simpa using h⟩
  have D4 : Aside0 (al.length + bs.length ≤ c4) := ⟨by have h := hl4.2.1; simpa using h⟩
  clear hl4
  have HN : Aside0 (al.length = N) := LL
  have T1 : Aside0 (Kd.C (Kd.int .u64) w4 (some p2) 1 (bs.take 1)) := ⟨by have h := Kd.C_take (m := 1) (by rw [HLB.out]; exact Kd.C_below HR2.out HB4.out : Kd.C (Kd.int .u64) w4 (some p2) bs.length bs) (by rw [HLB.out]; omega); rw [List.length_take, Nat.min_eq_left (by rw [HLB.out]; omega)] at h; exact h⟩
  have R1 : Aside0 (∀ W, Kd.C (Kd.int .u64) W A4 (al.length + bs.length) (al ++ bs) → Calls Try.prog 10 #[.slice A4 (al.length + bs.length) c4] W (fun e w' => e = .returned (.int .u64 r1) ∧ Below W.heap.size W w')) := ⟨fun W hr => by have h := digest_Root.calls k A4 c4 (al ++ bs) r1 W (by rw [List.length_append]; exact hr) (by rw [List.length_append]; exact D4.out) (by rw [← HAL.out]; exact G1.out); rw [List.length_append] at h; exact h⟩
  have R2 : Aside0 (∀ W, Kd.C (Kd.int .u64) W (some ⟨w.heap.size, 0, none⟩) N al → Calls Try.prog 10 #[.slice (some ⟨w.heap.size, 0, none⟩) N 16] W (fun e w' => e = .returned (.int .u64 r2) ∧ Below W.heap.size W w')) := ⟨fun W hr => by have h := digest_Root.calls k (some ⟨w.heap.size, 0, none⟩) 16 al r2 W (by rw [HN.out]; exact hr) (by rw [HN.out]; exact hN16) (by rw [← HAL.out]; exact G2.out); rw [HN.out] at h; exact h⟩
  have R3 : Aside0 (∀ W, Calls Try.prog 17 #[.int .u64 14695981039346656037, .int .u64 r2] W (fun e w' => e = .returned (.int .u64 r3) ∧ Drawn0 W w')) := ⟨fun W => digest_Number.calls k _ r2 r3 W G3.out⟩
  have R4 : Aside0 (∀ W, Kd.C (Kd.int .u64) W (some p2) len bs → Calls Try.prog 10 #[.slice (some p2) len c2] W (fun e w' => e = .returned (.int .u64 r4) ∧ Below W.heap.size W w')) := ⟨fun W hr => by have h := digest_Root.calls k (some p2) c2 bs r4 W (by rw [HLB.out]; exact hr) (by rw [HLB.out]; exact hc2) G4.out; rw [HLB.out] at h; exact h⟩
  have R5 : Aside0 (∀ W, Calls Try.prog 17 #[.int .u64 r3, .int .u64 r4] W (fun e w' => e = .returned (.int .u64 r5) ∧ Drawn0 W w')) := ⟨fun W => digest_Number.calls k r3 r4 r5 W G5.out⟩
  have R6 : Aside0 (∀ W, Kd.C (Kd.int .u64) W (some p2) 1 (bs.take 1) → Calls Try.prog 10 #[.slice (some p2) 1 c2] W (fun e w' => e = .returned (.int .u64 r6) ∧ Below W.heap.size W w')) := ⟨fun W hr => by have l1 : (bs.take 1).length = 1 := (by rw [List.length_take, HLB.out]; omega); have h := digest_Root.calls k (some p2) c2 (bs.take 1) r6 W (by rw [l1]; exact hr) (by rw [l1]; omega) G6.out; rw [l1] at h; exact h⟩
  have R7 := Aside0.mk (fun W => examboardlaw11_awake.calls k true W G7.out)
  have e1 := E1.out
  have e2 := E2.out
  have i0 : (0 : Int) < (len : Int) := by omega
  have i1 : (1 : Int) ≤ (c2 : Int) := by omega
  have i2 : 1 ≤ c2 := by omega
  have HS0 : Aside0 (w4.cell? p2 = some (.int .u64 b0) ∧ Aside0 (Below w4.heap.size w4 w4)) := ⟨pw_cell_below HB4.out (pw_cell_below bw1.out HB0.out), ⟨Below.refl _ _⟩⟩
  have BX4 := Aside0.mk (Kd.C_below bx1.out HB4.out)
  have BR4 := Aside0.mk (Kd.C_below HR2.out HB4.out)
  have BW4 : Aside0 (Below w.heap.size w w4) := ⟨below_step bw1.out HB4.out⟩
  go_region_held3 (fun w' => w'.cell? p2 = some (.int .u64 b0) ∧ Aside0 (Below w4.heap.size w4 w')) (first | exact hs_step (by assumption) (by assumption) | exact hs_step (by assumption) (pw_below_drewN (Below.refl _ _) _) | exact hs_step (by assumption) (below_drew (Below.refl _ _)) | exact hs_step HS0.out (below_drew (Below.refl _ _)) | exact HS0.out) (first | (go_at_call 10; (with_reducible refine (R1.out _ ?hr).mono ?_); (case hr => exact Kd.C_below C4.out (And.right (by assumption) : Aside0 (Below w4.heap.size w4 _)).out); rintro e w' ⟨rfl, hb⟩) | (go_at_call 10; (with_reducible refine (R2.out _ ?hr).mono ?_); (case hr => exact Kd.C_below BX4.out (And.right (by assumption) : Aside0 (Below w4.heap.size w4 _)).out); rintro e w' ⟨rfl, hb⟩) | (go_at_call 10; (with_reducible refine (R4.out _ ?hr).mono ?_); (case hr => exact Kd.C_below BR4.out (And.right (by assumption) : Aside0 (Below w4.heap.size w4 _)).out); rintro e w' ⟨rfl, hb⟩) | (go_at_call 10; (with_reducible refine (R6.out _ ?hr).mono ?_); (case hr => exact Kd.C_below T1.out (And.right (by assumption) : Aside0 (Below w4.heap.size w4 _)).out); rintro e w' ⟨rfl, hb⟩) | (go_at_call 17; (with_reducible refine (R3.out _).mono ?_); rintro e w' ⟨rfl, ⟨nd, rfl⟩⟩) | (go_at_call 17; (with_reducible refine (R5.out _).mono ?_); rintro e w' ⟨rfl, ⟨nd, rfl⟩⟩) | (go_at_call 12; (with_reducible refine (R7.out _).mono ?_); rintro e w' ⟨rfl, hb⟩))
  go_wp2
  go_ret
  exact ⟨rfl, below_step BW4.out (And.right (by assumption) : Aside0 (Below w4.heap.size w4 _)).out⟩
set_option maxHeartbeats 4000000 in
theorem clip_calls (a0 a1 a2 a3 a4 a5 a6 a7 a8 a9 a10 a11 a12 a13 a14 a15 kk : Int) (N : Nat) (p2 : Addr) (c2 len0 : Nat) (b0 : Int) (bs : List Int) (w : World) (hk0 : 0 ≤ kk) (hk : kk < 256) (hN : IntKind.i64.wrap (2 ^ (kk % 5).toNat) = (N : Int)) (hN1 : 1 ≤ N) (hN16 : N ≤ 16) (hcut : (N : Int) < (len0 : Int)) (hc2 : len0 ≤ c2) (hrb : Kd.C (Kd.int .u64) w (some p2) N bs) (hb0 : w.cell? p2 = some (.int .u64 b0))
    (k : Nat) (r1 r2 r3 r4 r5 r6 : Int) (h1 : digest_Root.f k (List.take N [a0, a1, a2, a3, a4, a5, a6, a7, a8, a9, a10, a11, a12, a13, a14, a15] ++ bs) = some r1) (h2 : digest_Root.f k (List.take N [a0, a1, a2, a3, a4, a5, a6, a7, a8, a9, a10, a11, a12, a13, a14, a15]) = some r2) (h3 : digest_Number.f k 14695981039346656037 r2 = some r3) (h4 : digest_Root.f k bs = some r4) (h5 : digest_Number.f k r3 r4 = some r5) (h6 : digest_Root.f k (bs.take 1) = some r6) (h7 : examboardlaw11_awake.f k = some true) (e1 : (r1 == r5) = true) (e2 : (r6 == b0) = true) :
    Calls Try.prog 5 #[.agg #[.int .u64 a0, .int .u64 a1, .int .u64 a2, .int .u64 a3, .int .u64 a4, .int .u64 a5, .int .u64 a6, .int .u64 a7, .int .u64 a8, .int .u64 a9, .int .u64 a10, .int .u64 a11, .int .u64 a12, .int .u64 a13, .int .u64 a14, .int .u64 a15], .int .u8 kk, (.slice (some p2) len0 c2)] w fun e w' => e = .returned (.bool true) ∧ Below w.heap.size w w' := by
  have hl0 : decide (len0 = 0) = false := by simp; omega
  have hl0b : ((len0 : Int) == 0) = false := by simp; omega
  have hle : decide ((N : Int) < (len0 : Int)) = true := by simp; omega
  have hleN : decide (N < len0) = true := by simp; omega
  have hb0N : (0 : Int) ≤ (N : Int) := by omega
  have hbNc : (N : Int) ≤ (c2 : Int) := by omega
  have hcN2 : N ≤ c2 := by omega
  have hN0 : 0 < N := by omega
  have hcb := cut_box ⟨w.heap.size, 0, none⟩ N hN16
  have hs23 : (Try.prog.info? 23).map (fun i => (i.zero, i.size, i.bytes)) = some (some (.int .u64 0), 1, 8) := by kernel_rfl
  have G1 := Aside0.mk h1; have G2 := Aside0.mk h2; have G3 := Aside0.mk h3; have G4 := Aside0.mk h4; have G5 := Aside0.mk h5; have G6 := Aside0.mk h6; have G7 := Aside0.mk h7; have HB0 := Aside0.mk hb0; have E1 := Aside0.mk e1; have E2 := Aside0.mk e2
  clear h1 h2 h3 h4 h5 h6 h7 hb0 e1 e2
  have bx := Aside0.mk (box_reads w 32 [a0, a1, a2, a3, a4, a5, a6, a7, a8, a9, a10, a11, a12, a13, a14, a15] N hN16 (Nat.le_refl 16))
  have H23 := Aside0.mk hs23
  clear hs23
  go_enter Try.func5, Try.ntmps5
  go_upto_region 6 with (fail)
  obtain ⟨w1, hw1⟩ : ∃ W, W = w.alloc (Obj.cells #[.int .u64 a0, .int .u64 a1, .int .u64 a2, .int .u64 a3, .int .u64 a4, .int .u64 a5, .int .u64 a6, .int .u64 a7, .int .u64 a8, .int .u64 a9, .int .u64 a10, .int .u64 a11, .int .u64 a12, .int .u64 a13, .int .u64 a14, .int .u64 a15] 32) := ⟨_, rfl⟩
  rw [← hw1]
  have bx1 : Aside0 (Kd.C (Kd.int .u64) w1 (some ⟨w.heap.size, 0, none⟩) N (List.take N [a0, a1, a2, a3, a4, a5, a6, a7, a8, a9, a10, a11, a12, a13, a14, a15])) := ⟨by rw [hw1]; exact bx.out⟩
  have bw1 : Aside0 (Below w.heap.size w w1) := ⟨by rw [hw1]; exact below_alloc (Below.refl _ _) _⟩
  have HR2 : Aside0 (Kd.C (Kd.int .u64) w1 (some p2) N bs) := ⟨Kd.C_below hrb bw1.out⟩
  have LL : Aside0 ((List.take N [a0, a1, a2, a3, a4, a5, a6, a7, a8, a9, a10, a11, a12, a13, a14, a15]).length = N) := ⟨by rw [List.length_take]; exact Nat.min_eq_left hN16⟩
  generalize hal : List.take N [a0, a1, a2, a3, a4, a5, a6, a7, a8, a9, a10, a11, a12, a13, a14, a15] = al at bx1 LL
  have HAL := Aside0.mk hal
  have HLB : Aside0 (bs.length = N) := ⟨hrb.1⟩
  clear hw1 bx hal hrb
  go_wp2_with (first | ((with_reducible refine gate_dst (N := 34) rfl ?_); refine Kd.R_lit (Kd.int .u64) (w0 := w1) w1.heap.size 23 ?hg (N := 34) ?hd (xs := ([] : List Int)) (inner := []) (ok := fun _ => True) (okp := fun _ => True) ?hr ?hp (fun _ hk => hk) trivial (Below.refl _ _) (Nat.le_refl _) (by simp) ?_; (case hd => rfl); (case hg => rfl); (case hr => first | (go_simp; done) | (go_simp; rfl)); (case hp => exact (Reps.none _ _)); intro v2 w2 ho hb hg_ hnew_; clear hg_ hnew_; have HO2 := Aside0.mk ho; have HB2 := Aside0.mk hb; clear ho hb) | ((with_reducible refine gate_builtin (b := .append) (xs := #[.tmp 34, .tmp 36]) rfl ?_); at_builtin; refine Kd.R_append_rows (Kd.int .u64) (w0 := w1) w1.heap.size rfl (.tmp 34) (.tmp 36) 22 23 (.int .u64 0) 8 rfl Try.underlying22 H23.out rfl (by decide) (by omega) v2 [] al _ _ _ (fun _ => True) (fun _ => False) rfl rfl ?aO ?aR (fun _ _ h => h) (fun _ h => h.elim) ?aF ?aB ?aS ?aL ?_; (case aR => exact Kd.C_below bx1.out HB2.out); (case aB => exact HB2.out); (case aF => exact (fun _ _ => trivial)); (case aO => exact HO2.out); (case aS => exact HB2.out.size); (case aL => simp; omega); intro v3 w3 ho hb hg hat; clear hg hat; have HO3 := Aside0.mk ho; have HB3 := Aside0.mk hb; clear ho hb HO2 HB2) | ((with_reducible refine gate_builtin (b := .append) (xs := #[.tmp 38, .tmp 39]) rfl ?_); at_builtin; refine Kd.R_append_rows (Kd.int .u64) (w0 := w1) w1.heap.size rfl (.tmp 38) (.tmp 39) 22 23 (.int .u64 0) 8 rfl Try.underlying22 H23.out rfl (by decide) (by omega) v3 ([] ++ al) bs _ _ _ (fun _ => True) (fun _ => False) rfl rfl ?aO ?aR (fun _ _ h => h) (fun _ h => h.elim) ?aF ?aB ?aS ?aL ?_; (case aR => exact Kd.C_below HR2.out HB3.out); (case aB => exact HB3.out); (case aF => exact (fun _ _ => trivial)); (case aO => exact HO3.out); (case aS => exact HB3.out.size); (case aL => have := LL.out; simp; omega); intro v4 w4 ho hb hg hat; clear hg hat; have HO4 := Aside0.mk ho; have HB4 := Aside0.mk hb; clear ho hb HO3 HB3; obtain ⟨A4, c4, e4⟩ := Kd.R_slice HO4.out; subst e4))
  have hl4 := (Kd.R_reads' HO4.out)
  have C4 : Aside0 (Kd.C (Kd.int .u64) w4 A4 (al.length + bs.length) (al ++ bs)) := ⟨by have h := hl4.2.2; simpa using h⟩
  have D4 : Aside0 (al.length + bs.length ≤ c4) := ⟨by have h := hl4.2.1; simpa using h⟩
  clear hl4
  have HN : Aside0 (al.length = N) := LL
  have T1 : Aside0 (Kd.C (Kd.int .u64) w4 (some p2) 1 (bs.take 1)) := ⟨by have h := Kd.C_take (m := 1) (by rw [HLB.out]; exact Kd.C_below HR2.out HB4.out : Kd.C (Kd.int .u64) w4 (some p2) bs.length bs) (by rw [HLB.out]; omega); rw [List.length_take, Nat.min_eq_left (by rw [HLB.out]; omega)] at h; exact h⟩
  have R1 : Aside0 (∀ W, Kd.C (Kd.int .u64) W A4 (al.length + bs.length) (al ++ bs) → Calls Try.prog 10 #[.slice A4 (al.length + bs.length) c4] W (fun e w' => e = .returned (.int .u64 r1) ∧ Below W.heap.size W w')) := ⟨fun W hr => by have h := digest_Root.calls k A4 c4 (al ++ bs) r1 W (by rw [List.length_append]; exact hr) (by rw [List.length_append]; exact D4.out) (by rw [← HAL.out]; exact G1.out); rw [List.length_append] at h; exact h⟩
  have R2 : Aside0 (∀ W, Kd.C (Kd.int .u64) W (some ⟨w.heap.size, 0, none⟩) N al → Calls Try.prog 10 #[.slice (some ⟨w.heap.size, 0, none⟩) N 16] W (fun e w' => e = .returned (.int .u64 r2) ∧ Below W.heap.size W w')) := ⟨fun W hr => by have h := digest_Root.calls k (some ⟨w.heap.size, 0, none⟩) 16 al r2 W (by rw [HN.out]; exact hr) (by rw [HN.out]; exact hN16) (by rw [← HAL.out]; exact G2.out); rw [HN.out] at h; exact h⟩
  have R3 : Aside0 (∀ W, Calls Try.prog 17 #[.int .u64 14695981039346656037, .int .u64 r2] W (fun e w' => e = .returned (.int .u64 r3) ∧ Drawn0 W w')) := ⟨fun W => digest_Number.calls k _ r2 r3 W G3.out⟩
  have R4 : Aside0 (∀ W, Kd.C (Kd.int .u64) W (some p2) N bs → Calls Try.prog 10 #[.slice (some p2) N c2] W (fun e w' => e = .returned (.int .u64 r4) ∧ Below W.heap.size W w')) := ⟨fun W hr => by have h := digest_Root.calls k (some p2) c2 bs r4 W (by rw [HLB.out]; exact hr) (by rw [HLB.out]; exact hcN2) G4.out; rw [HLB.out] at h; exact h⟩
  have R5 : Aside0 (∀ W, Calls Try.prog 17 #[.int .u64 r3, .int .u64 r4] W (fun e w' => e = .returned (.int .u64 r5) ∧ Drawn0 W w')) := ⟨fun W => digest_Number.calls k r3 r4 r5 W G5.out⟩
  have R6 : Aside0 (∀ W, Kd.C (Kd.int .u64) W (some p2) 1 (bs.take 1) → Calls Try.prog 10 #[.slice (some p2) 1 c2] W (fun e w' => e = .returned (.int .u64 r6) ∧ Below W.heap.size W w')) := ⟨fun W hr => by have l1 : (bs.take 1).length = 1 := (by rw [List.length_take, HLB.out]; omega); have h := digest_Root.calls k (some p2) c2 (bs.take 1) r6 W (by rw [l1]; exact hr) (by rw [l1]; omega) G6.out; rw [l1] at h; exact h⟩
  have R7 := Aside0.mk (fun W => examboardlaw11_awake.calls k true W G7.out)
  have e1 := E1.out
  have e2 := E2.out
  have i0 : (0 : Int) < (N : Int) := by omega
  have i1 : (1 : Int) ≤ (c2 : Int) := by omega
  have i2 : 1 ≤ c2 := by omega
  have HS0 : Aside0 (w4.cell? p2 = some (.int .u64 b0) ∧ Aside0 (Below w4.heap.size w4 w4)) := ⟨pw_cell_below HB4.out (pw_cell_below bw1.out HB0.out), ⟨Below.refl _ _⟩⟩
  have BX4 := Aside0.mk (Kd.C_below bx1.out HB4.out)
  have BR4 := Aside0.mk (Kd.C_below HR2.out HB4.out)
  have BW4 : Aside0 (Below w.heap.size w w4) := ⟨below_step bw1.out HB4.out⟩
  go_region_held3 (fun w' => w'.cell? p2 = some (.int .u64 b0) ∧ Aside0 (Below w4.heap.size w4 w')) (first | exact hs_step (by assumption) (by assumption) | exact hs_step (by assumption) (pw_below_drewN (Below.refl _ _) _) | exact hs_step (by assumption) (below_drew (Below.refl _ _)) | exact hs_step HS0.out (below_drew (Below.refl _ _)) | exact HS0.out) (first | (go_at_call 10; (with_reducible refine (R1.out _ ?hr).mono ?_); (case hr => exact Kd.C_below C4.out (And.right (by assumption) : Aside0 (Below w4.heap.size w4 _)).out); rintro e w' ⟨rfl, hb⟩) | (go_at_call 10; (with_reducible refine (R2.out _ ?hr).mono ?_); (case hr => exact Kd.C_below BX4.out (And.right (by assumption) : Aside0 (Below w4.heap.size w4 _)).out); rintro e w' ⟨rfl, hb⟩) | (go_at_call 10; (with_reducible refine (R4.out _ ?hr).mono ?_); (case hr => exact Kd.C_below BR4.out (And.right (by assumption) : Aside0 (Below w4.heap.size w4 _)).out); rintro e w' ⟨rfl, hb⟩) | (go_at_call 10; (with_reducible refine (R6.out _ ?hr).mono ?_); (case hr => exact Kd.C_below T1.out (And.right (by assumption) : Aside0 (Below w4.heap.size w4 _)).out); rintro e w' ⟨rfl, hb⟩) | (go_at_call 17; (with_reducible refine (R3.out _).mono ?_); rintro e w' ⟨rfl, ⟨nd, rfl⟩⟩) | (go_at_call 17; (with_reducible refine (R5.out _).mono ?_); rintro e w' ⟨rfl, ⟨nd, rfl⟩⟩) | (go_at_call 12; (with_reducible refine (R7.out _).mono ?_); rintro e w' ⟨rfl, hb⟩))
  go_wp2
  go_ret
  exact ⟨rfl, below_step BW4.out (And.right (by assumption) : Aside0 (Below w4.heap.size w4 _)).out⟩
end Go.Proofs.Ytmjedihfibdhfaa.TreeLaw
