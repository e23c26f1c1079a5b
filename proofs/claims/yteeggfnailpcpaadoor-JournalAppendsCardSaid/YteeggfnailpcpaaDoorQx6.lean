/- Made by wip/myprint.py of this session (it drives the kit's printer): what the calls of the Go functions come to, as plain Lean functions, and the row of a law over them; without conditions. -/
import Derived.Test.YteeggfnailpcpaaDoorQx0
import Derived.Test.YteeggfnailpcpaaDoorQx4
import Derived.Test.YteeggfnailpcpaaDoorQx5
namespace Go.Proofs.YteeggfnailpcpaaDoor.Q
open Go.RowKit Go.Proofs.YteeggfnailpcpaaDoorW.PrintWords Go.Proofs.YteeggfnailpcpaaDoorW.PrintLast Go.Proofs.YteeggfnailpcpaaDoorW.PrintMore
attribute [local go_sem] max2_int min2_int max_two min_two max_three min_three max_four min_four   -- for this text's walks alone
set_option linter.unusedVariables false
set_option linter.unusedSimpArgs false

/-! ### codec_Decode: function 57 -/
theorem rep11 : (Array.replicate 11 undef : Array Value) = #[undef, undef, undef, undef, undef, undef, undef, undef, undef, undef, undef] := rfl
set_option maxHeartbeats 8000000 in
set_option maxRecDepth 100000 in
theorem catch_idle (g2 g3 g4 : Nat) (w : World) :
    CallsD Tryd.prog 66 #[.pointer (some ⟨g2, 0, none⟩), .pointer (some ⟨g3, 0, none⟩), .pointer (some ⟨g4, 0, none⟩)] .returning w fun e u' w' => e = .returned (.tuple #[]) ∧ u' = .returning ∧ w' = w.alloc (.cells #[.int .i64 0] 95) := by
  have hta : ∀ W : World, (Instr.typeAssert Value.nilIface 20 95 true).run Tryd.prog W = .ok (.tuple #[.agg #[.int .i64 0], .bool false]) W := by
    intro W
    simp [Instr.typeAssert, go_sem]
  refine callsD_of_wpS Tryd.func66 rfl fun c₀ cs hu => ?_
  apply wpS_seq
  apply wpS_region
  simp [wpOpsS, go_sem, recoverD, hu, Tryd.ntmps66, Exit.thenS, rep11, hta]
  apply wpS_seq
  apply wpS_region
  simp [wpOpsS, go_sem, Exit.thenS]
  refine wpS_cond (t := false) (by simp [Act.eval]) ?_
  simp only [Bool.false_eq_true, if_false]
  refine wpS_of_wp (wp_skip ?_)
  cases c₀
  simp_all [bodyPostS, results, Tryd.results66]
set_option maxHeartbeats 8000000 in
set_option maxRecDepth 100000 in
theorem catch_panicking (g2 g3 g4 : Nat) (c : Int) (x0 x1 x2 x3 x4 y z : Value) (w : World) (h2 : w.heap[g2]? = some (.cells #[x0, x1, x2, x3, x4] 43 (0, 0))) (h3 : w.heap[g3]? = some (.cells #[y] 3 (0, 0))) (h4 : w.heap[g4]? = some (.cells #[z] 29 (0, 0))) (w0 : World) (hB : Below w0.heap.size w0 w) (e2 : w0.heap.size ≤ g2) (e3 : w0.heap.size ≤ g3) (e4 : w0.heap.size ≤ g4) :
    CallsD Tryd.prog 66 #[.pointer (some ⟨g2, 0, none⟩), .pointer (some ⟨g3, 0, none⟩), .pointer (some ⟨g4, 0, none⟩)] (.panicking [{ v := .iface 95 (.agg #[.int .i64 c]), recovered := false }]) w fun e u' w' =>
      e = .returned (.tuple #[]) ∧ u' = .panicking [{ v := .iface 95 (.agg #[.int .i64 c]), recovered := true }] ∧
      w'.heap[g2]? = some (.cells #[.int .i64 0, .int .i64 0, .int .i64 0, .string ⟨#[]⟩, .slice none 0 0] 43 (0, 0)) ∧ w'.heap[g3]? = some (.cells #[.int .i64 0] 3 (0, 0)) ∧ w'.heap[g4]? = some (.cells #[.int .i64 c] 29 (0, 0)) ∧ Below w0.heap.size w0 w' := by
  have hta : ∀ W : World, (Instr.typeAssert (.iface 95 (.agg #[.int .i64 c])) 20 95 true).run Tryd.prog W = .ok (.tuple #[.agg #[.int .i64 c], .bool true]) W := by
    intro W
    simp [Instr.typeAssert, go_sem]
  refine callsD_of_wpS Tryd.func66 rfl fun c₀ cs hu => ?_
  apply wpS_seq
  apply wpS_region
  simp [wpOpsS, go_sem, recoverD, hu, Tryd.ntmps66, Exit.thenS, rep11, hta]
  apply wpS_seq
  apply wpS_region
  simp [wpOpsS, go_sem, Exit.thenS]
  refine wpS_cond (t := true) (by simp [Act.eval]) ?_
  simp only [if_true]
  refine wpS_of_wp ?_
  have hF0 : (w.alloc (.cells #[.int .i64 c] 95)).drew.cell? ⟨w.heap.size, 0, none⟩ = some (.int .i64 c) := (blk_cell (blk_drew (heap_alloc_new w (.cells #[.int .i64 c] 95))) 0).trans rfl
  have HB : Below w0.heap.size w0 (w.alloc (.cells #[.int .i64 c] 95)).drew := hz hB
  have BF := blk_drew (heap_alloc_new w (.cells #[.int .i64 c] 95))
  have B2 := blk_drew (blk_alloc h2 (.cells #[.int .i64 c] 95))
  have B3 := blk_drew (blk_alloc h3 (.cells #[.int .i64 c] 95))
  have B4 := blk_drew (blk_alloc h4 (.cells #[.int .i64 c] 95))
  have nf2 : w.heap.size ≠ g2 := (Nat.ne_of_lt (blk_lt h2)).symm
  have nf3 : w.heap.size ≠ g3 := (Nat.ne_of_lt (blk_lt h3)).symm
  have nf4 : w.heap.size ≠ g4 := (Nat.ne_of_lt (blk_lt h4)).symm
  have n32 : g3 ≠ g2 := fun e => by rw [e, h2] at h3; simp at h3
  have n42 : g4 ≠ g2 := fun e => by rw [e, h2] at h4; simp at h4
  have n43 : g4 ≠ g3 := fun e => by rw [e, h3] at h4; simp at h4
  have n23 := n32.symm
  have n24 := n42.symm
  have n34 := n43.symm
  have nf2' := nf2.symm
  have nf3' := nf3.symm
  have nf4' := nf4.symm
  refine start_ (n := 6) (S := fun w' => w'.cell? ⟨w.heap.size, 0, none⟩ = some (.int .i64 c)) (ds := [5]) #[false, false, false, false, false, false] (by kernel_rfl) rfl rfl (hF0) (fun hHeld => ?_)
  clear hF0
  generalize (w.alloc (.cells #[.int .i64 c] 95)).drew = W1 at BF B2 B3 B4 HB hHeld ⊢
  refine pure_ (i := 0) (N := some 11) (v := ?_) (a' := ?_) #[true, false, false, false, false, false] rfl rfl (by kernel_rfl) (fun _ _ _ h => h) (Or.inl ⟨by rfl, ?_⟩) ?_ ?_
  rotate_left
  · intro w'
    go_simp
    with_reducible rfl
  rotate_left
  · simp only [Act.put, List.setIfInBounds_toArray, List.set_cons_zero, List.set_cons_succ, i64_w, i32_w]
    rfl
  refine pure_ (i := 1) (N := some 12) (v := ?_) (a' := ?_) #[true, true, false, false, false, false] rfl rfl (by kernel_rfl) (fun _ _ _ h => h) (Or.inl ⟨by rfl, ?_⟩) ?_ ?_
  rotate_left
  · intro w'
    go_simp
    with_reducible rfl
  rotate_left
  · simp only [Act.put, List.setIfInBounds_toArray, List.set_cons_zero, List.set_cons_succ, i64_w, i32_w]
    rfl
  refine take_ (i := 2) (N := some 13) (v := ?_) (a' := ?_) #[true, true, true, false, false, false] rfl rfl (by kernel_rfl) (fun _ _ _ h => h) (Or.inl ⟨by rfl, ?_⟩) hHeld ?_ ?_
  rotate_left
  · intro w' s0
    go_simp
    with_reducible rfl
  rotate_left
  · simp only [Act.put, List.setIfInBounds_toArray, List.set_cons_zero, List.set_cons_succ, i64_w, i32_w]
    rfl
  refine one_ (i := 3) (N := none) #[true, true, true, true, false, false] rfl rfl (by kernel_rfl) (by decide) (fun K hK => ?_)
  obtain ⟨c0, c1, c2, c3, c4⟩ := cs5 B2
  obtain ⟨f0, f1, f2, f3, f4⟩ := fs5 B2
  refine skip_ (w1 := ?_) (by rfl) rfl ?_ ?_
  rotate_left
  · go_simp
    rfl
  refine hK.out _ _ ((blk_cell (bf1 nf2 BF) 0).trans rfl) (fun hHeld => ?_)
  clear hK K
  refine one_ (i := 4) (N := none) #[true, true, true, true, true, false] rfl rfl (by kernel_rfl) (by decide) (fun K hK => ?_)
  have C2 : (((((W1.setCell ⟨g2, 0, none⟩ (.int .i64 0)).setCell ⟨g2, 1, none⟩ (.int .i64 0)).setCell ⟨g2, 2, none⟩ (.int .i64 0)).setCell ⟨g2, 3, none⟩ (.string ⟨#[]⟩)).setCell ⟨g2, 4, none⟩ (.slice none 0 0)).heap[g2]? = some (.cells #[.int .i64 0, .int .i64 0, .int .i64 0, .string ⟨#[]⟩, .slice none 0 0] 43 (0, 0)) := by
    refine blk_put (cs := #[.int .i64 0, .int .i64 0, .int .i64 0, .string ⟨#[]⟩, x4]) ?_ 4 _ rfl
    refine blk_put (cs := #[.int .i64 0, .int .i64 0, .int .i64 0, x3, x4]) ?_ 3 _ rfl
    refine blk_put (cs := #[.int .i64 0, .int .i64 0, x2, x3, x4]) ?_ 2 _ rfl
    refine blk_put (cs := #[.int .i64 0, x1, x2, x3, x4]) ?_ 1 _ rfl
    refine blk_put (cs := #[x0, x1, x2, x3, x4]) ?_ 0 _ rfl
    exact B2
  have C3 : (((((W1.setCell ⟨g2, 0, none⟩ (.int .i64 0)).setCell ⟨g2, 1, none⟩ (.int .i64 0)).setCell ⟨g2, 2, none⟩ (.int .i64 0)).setCell ⟨g2, 3, none⟩ (.string ⟨#[]⟩)).setCell ⟨g2, 4, none⟩ (.slice none 0 0)).heap[g3]? = some (.cells #[y] 3 (0, 0)) := bf1 n32 B3
  have C4 : (((((W1.setCell ⟨g2, 0, none⟩ (.int .i64 0)).setCell ⟨g2, 1, none⟩ (.int .i64 0)).setCell ⟨g2, 2, none⟩ (.int .i64 0)).setCell ⟨g2, 3, none⟩ (.string ⟨#[]⟩)).setCell ⟨g2, 4, none⟩ (.slice none 0 0)).heap[g4]? = some (.cells #[z] 29 (0, 0)) := bf1 n42 B4
  have CF : (((((W1.setCell ⟨g2, 0, none⟩ (.int .i64 0)).setCell ⟨g2, 1, none⟩ (.int .i64 0)).setCell ⟨g2, 2, none⟩ (.int .i64 0)).setCell ⟨g2, 3, none⟩ (.string ⟨#[]⟩)).setCell ⟨g2, 4, none⟩ (.slice none 0 0)).heap[w.heap.size]? = some (.cells #[.int .i64 c] 95 (0, 0)) := bf1 nf2 BF
  replace HB := (show Below w0.heap.size w0 (((((W1.setCell ⟨g2, 0, none⟩ (.int .i64 0)).setCell ⟨g2, 1, none⟩ (.int .i64 0)).setCell ⟨g2, 2, none⟩ (.int .i64 0)).setCell ⟨g2, 3, none⟩ (.string ⟨#[]⟩)).setCell ⟨g2, 4, none⟩ (.slice none 0 0)) from hz1 HB e2)
  clear c0 c1 c2 c3 c4 f0 f1 f2 f3 f4 B2 B3 B4 BF
  generalize (((((W1.setCell ⟨g2, 0, none⟩ (.int .i64 0)).setCell ⟨g2, 1, none⟩ (.int .i64 0)).setCell ⟨g2, 2, none⟩ (.int .i64 0)).setCell ⟨g2, 3, none⟩ (.string ⟨#[]⟩)).setCell ⟨g2, 4, none⟩ (.slice none 0 0)) = W2 at C2 C3 C4 CF HB hHeld ⊢
  have c0 := cs1 C3
  have f0 := fs1 C3
  refine skip_ (w1 := ?_) (by rfl) rfl ?_ ?_
  rotate_left
  · go_simp
    rfl
  refine hK.out _ _ ((blk_cell (bf1 nf3 CF) 0).trans rfl) (fun hHeld => ?_)
  clear hK K
  refine last_ (i := 5) (N := none) #[true, true, true, true, true, true] rfl rfl (by kernel_rfl) (by decide) (fun K hK => ?_)
  have D2 : (W2.setCell ⟨g3, 0, none⟩ (.int .i64 0)).heap[g2]? = some (.cells #[.int .i64 0, .int .i64 0, .int .i64 0, .string ⟨#[]⟩, .slice none 0 0] 43 (0, 0)) := bf1 n23 C2
  have D3 : (W2.setCell ⟨g3, 0, none⟩ (.int .i64 0)).heap[g3]? = some (.cells #[.int .i64 0] 3 (0, 0)) := by
    refine blk_put (cs := #[y]) ?_ 0 _ rfl
    exact C3
  have D4 : (W2.setCell ⟨g3, 0, none⟩ (.int .i64 0)).heap[g4]? = some (.cells #[z] 29 (0, 0)) := bf1 n43 C4
  replace HB := (show Below w0.heap.size w0 (W2.setCell ⟨g3, 0, none⟩ (.int .i64 0)) from hz1 HB e3)
  clear c0 f0 C2 C3 C4 CF
  generalize (W2.setCell ⟨g3, 0, none⟩ (.int .i64 0)) = W3 at D2 D3 D4 HB hHeld ⊢
  have c0 := cs1 D4
  have f0 := fs1 D4
  refine skip_ (w1 := ?_) (by rfl) rfl ?_ ?_
  rotate_left
  · go_simp
    rfl
  refine hK.out _ _ ?_
  clear hK K
  refine done_ (by kernel_rfl) ?_

  exact ⟨rfl, _, rfl, _, results_none rfl _ _ _, rfl, rfl, bf1 n24 D2, bf1 n34 D3, blk_put (cs := #[z]) D4 0 _ rfl, hz1 HB e4⟩

theorem leaves_tmps {P : Program} {fn : Func} {R : Ending → World → Prop} {t t' : Array Value} (h : ∀ W, (results fn t).run P W = (results fn t').run P W) : ∀ (ds : List Deferred) (u : FrameMode) (w : World), Leaves P fn t R ds u w → Leaves P fn t' R ds u w
  | [], .returning, w, x => by
    obtain ⟨v, a, b⟩ := x
    exact ⟨v, (h w) ▸ a, b⟩
  | [], .panicking c, w, x => x
  | [], .run, _, x => x.elim
  | d :: ds, u, w, x => by
    obtain ⟨a, fv, cap, f, args, b, c, hc⟩ := x
    refine ⟨a, fv, cap, f, args, b, c, hc.mono fun e u' w' y => ?_⟩
    cases e with
    | returned v => exact leaves_tmps h ds _ _ y
    | panicked ch => exact leaves_tmps h ds _ _ y
    | outgrown => exact y
theorem hq13 {R : Ending → World → Prop} {c : List PanicEntry} {a : Act} {w : World} {N : Nat} {v : Value} (hN : 5 ≤ N) (h : bodyPostD Tryd.prog Tryd.f57 R (Exit.panic c) (a.put (some N) v) w) : bodyPostD Tryd.prog Tryd.f57 R (Exit.panic c) a w := by
  refine leaves_tmps (fun W => ?_) _ _ _ h
  have e : ∀ i, i < 5 → (a.tmps.setIfInBounds N v)[i]? = a.tmps[i]? := fun i hi => Array.getElem?_setIfInBounds_ne (by omega)
  simp [Act.put, results, Tryd.results57, e]

def codec_Decode.f (k : Nat) (l0 : List Int) : Option (Int × Int × Int × ByteArray × (List (S43)) × Int × Int) := (codec_decoder_node.f k l0 0 1).bind fun t => if t.2.2.2.2.2.2 = 0 then some (t.1, t.2.1, t.2.2.1, t.2.2.2.1, t.2.2.2.2.1, t.2.2.2.2.2.1, 0) else some (0, 0, 0, (⟨#[]⟩ : ByteArray), ([] : List (S43)), 0, t.2.2.2.2.2.2)
theorem codec_Decode.mono : ∀ a0 k, LeO (codec_Decode.f k a0) (codec_Decode.f (k + 1) a0) := by
  intro a0 k
  unfold codec_Decode.f
  exact LeO.bind (codec_decoder_node.mono _ _ _ _) (fun _ => LeO.refl _)
set_option maxHeartbeats 8000000 in
set_option maxRecDepth 100000 in
theorem codec_Decode.calls (k : Nat) (A0 : Option Addr) (c0 : Nat) (l0 : List Int) (r1 : Int) (r2 : Int) (r3 : Int) (r4 : ByteArray) (r5 : List (S43)) (r6 : Int) (r7 : Int) (w : World) (hr0 : Kd.C (Kd.int .u8) w A0 l0.length l0) (hc0 : l0.length ≤ c0) (h : codec_Decode.f k l0 = some (r1, r2, r3, r4, r5, r6, r7)) :
  Calls Tryd.prog 57 #[.slice A0 l0.length c0] w fun e w' => ∃ v4_ : Value, e = .returned (.tuple #[.agg #[.int .i64 r1, .int .i64 r2, .int .i64 r3, .string r4, v4_], .int .i64 r6, .int .i64 r7]) ∧ Kd.R k43 43 w' w.heap.size (fun _ => True) v4_ r5 ∧ Below w.heap.size w w' := by
  unfold codec_Decode.f at h
  obtain ⟨⟨t1, t2, t3, t4, t5, t6, t7⟩, hn, h⟩ := Option.bind_eq_some_iff.mp h
  simp only [] at h
  have hmf : ∀ (fn : Fn) (first cap : Array Value) (w : World), (Instr.makeFunc fn first cap).run Tryd.prog w = .ok (.func fn first cap) w := fun _ _ _ _ => rfl
  have hu99 := Tryd.underlying99
  have hu43 := Tryd.underlying43
  have hB1 : Below w.heap.size w (w.alloc (.cells #[.int .i64 0, .int .i64 0, .int .i64 0, .string ⟨#[]⟩, .slice none 0 0] 43)) := hz (Below.refl _ _)
  have hB2 : Below w.heap.size w ((w.alloc (.cells #[.int .i64 0, .int .i64 0, .int .i64 0, .string ⟨#[]⟩, .slice none 0 0] 43)).alloc (.cells #[.int .i64 0] 3)) := hz hB1
  have hB3 : Below w.heap.size w (((w.alloc (.cells #[.int .i64 0, .int .i64 0, .int .i64 0, .string ⟨#[]⟩, .slice none 0 0] 43)).alloc (.cells #[.int .i64 0] 3)).alloc (.cells #[.int .i64 0] 29)) := hz hB2
  have hI : IsS99 w ((((w.alloc (.cells #[.int .i64 0, .int .i64 0, .int .i64 0, .string ⟨#[]⟩, .slice none 0 0] 43)).alloc (.cells #[.int .i64 0] 3)).alloc (.cells #[.int .i64 0] 29)).alloc (.cells #[.slice A0 l0.length c0, .int .i64 0] 99)) (w.heap.size + 1 + 1 + 1) l0 0 := by
    have := IsS99.new w (((w.alloc (.cells #[.int .i64 0, .int .i64 0, .int .i64 0, .string ⟨#[]⟩, .slice none 0 0] 43)).alloc (.cells #[.int .i64 0] 3)).alloc (.cells #[.int .i64 0] 29)) A0 c0 l0 0 hB3 hr0
    simpa using this
  have hB4 : Below w.heap.size w ((((w.alloc (.cells #[.int .i64 0, .int .i64 0, .int .i64 0, .string ⟨#[]⟩, .slice none 0 0] 43)).alloc (.cells #[.int .i64 0] 3)).alloc (.cells #[.int .i64 0] 29)).alloc (.cells #[.slice A0 l0.length c0, .int .i64 0] 99)) := hz hB3
  have b2 : ((((w.alloc (.cells #[.int .i64 0, .int .i64 0, .int .i64 0, .string ⟨#[]⟩, .slice none 0 0] 43)).alloc (.cells #[.int .i64 0] 3)).alloc (.cells #[.int .i64 0] 29)).alloc (.cells #[.slice A0 l0.length c0, .int .i64 0] 99)).heap[w.heap.size]? = some (.cells #[.int .i64 0, .int .i64 0, .int .i64 0, .string ⟨#[]⟩, .slice none 0 0] 43 (0, 0)) := blk_alloc (blk_alloc (blk_alloc (heap_alloc_new w _) _) _) _
  have b3 : ((((w.alloc (.cells #[.int .i64 0, .int .i64 0, .int .i64 0, .string ⟨#[]⟩, .slice none 0 0] 43)).alloc (.cells #[.int .i64 0] 3)).alloc (.cells #[.int .i64 0] 29)).alloc (.cells #[.slice A0 l0.length c0, .int .i64 0] 99)).heap[w.heap.size + 1]? = some (.cells #[.int .i64 0] 3 (0, 0)) := by
    have e : (w.alloc (.cells #[.int .i64 0, .int .i64 0, .int .i64 0, .string ⟨#[]⟩, .slice none 0 0] 43)).heap.size = w.heap.size + 1 := by simp
    have := heap_alloc_new (w.alloc (.cells #[.int .i64 0, .int .i64 0, .int .i64 0, .string ⟨#[]⟩, .slice none 0 0] 43)) (.cells #[.int .i64 0] 3)
    rw [e] at this
    exact blk_alloc (blk_alloc this _) _
  have b4 : ((((w.alloc (.cells #[.int .i64 0, .int .i64 0, .int .i64 0, .string ⟨#[]⟩, .slice none 0 0] 43)).alloc (.cells #[.int .i64 0] 3)).alloc (.cells #[.int .i64 0] 29)).alloc (.cells #[.slice A0 l0.length c0, .int .i64 0] 99)).heap[w.heap.size + 1 + 1]? = some (.cells #[.int .i64 0] 29 (0, 0)) := by
    have e : ((w.alloc (.cells #[.int .i64 0, .int .i64 0, .int .i64 0, .string ⟨#[]⟩, .slice none 0 0] 43)).alloc (.cells #[.int .i64 0] 3)).heap.size = w.heap.size + 1 + 1 := by simp
    have := heap_alloc_new ((w.alloc (.cells #[.int .i64 0, .int .i64 0, .int .i64 0, .string ⟨#[]⟩, .slice none 0 0] 43)).alloc (.cells #[.int .i64 0] 3)) (.cells #[.int .i64 0] 29)
    rw [e] at this
    exact blk_alloc this _
  by_cases c7 : t7 = 0
  · rw [if_pos c7] at h
    simp only [Option.some.injEq, Prod.mk.injEq] at h
    obtain ⟨rfl, rfl, rfl, rfl, rfl, rfl, rfl⟩ := h
    go_enter_defers Tryd.func57, Tryd.ntmps57
    go_wp2_with (first | ((with_reducible refine gate_callee (f := 67) rfl ?_); refine goesLP_ (some 11) rfl rfl Tryd.func67 (by kernel_rfl) rfl #[.pointer (some ⟨w.heap.size + 1 + 1 + 1, 0, none⟩), .int .i64 1] rfl lz ?_; refine (codec_decoder_node.calls k (w.heap.size + 1 + 1 + 1) l0 0 1 t1 t2 t3 t4 t5 t6 t7 w _ hI hB4 hn).mono ?_; rintro e w' ⟨v4, he_, hR, hI', hB', hK'⟩; have B2 := (hK'.2 w.heap.size (blk_lt b2) (by omega) (by simp)).trans b2; have B3 := (hK'.2 (w.heap.size + 1) (blk_lt b3) (by omega) (by simp)).trans b3; have B4 := (hK'.2 (w.heap.size + 1 + 1) (blk_lt b4) (by omega) (by simp)).trans b4; clear b2 b3 b4 hK' hI; obtain ⟨Ao, co, rfl⟩ := Kd.R_slice hR; obtain ⟨x0, x1, x2, x3, x4⟩ := cs5 B2; obtain ⟨f0, f1, f2, f3, f4⟩ := fs5 B2; refine zero_ he_ (beq_iff_eq.mpr c7) ?_))
    clear x0 x1 x2 x3 x4 f0 f1 f2 f3 f4
    obtain ⟨A', c', HG, _, _⟩ := hI'
    have HR := Kd.R_mono (Kd.R_bound hR) (fun k hk => hk.2.1)
    have sz : ((((w.alloc (.cells #[.int .i64 0, .int .i64 0, .int .i64 0, .string ⟨#[]⟩, .slice none 0 0] 43)).alloc (.cells #[.int .i64 0] 3)).alloc (.cells #[.int .i64 0] 29)).alloc (.cells #[.slice A0 l0.length c0, .int .i64 0] 99)).heap.size = w.heap.size + 1 + 1 + 1 + 1 := by simp
    rw [sz] at HR
    have n32 : w.heap.size + 1 ≠ w.heap.size := by omega
    have n42 : w.heap.size + 1 + 1 ≠ w.heap.size := by omega
    have nd2 : w.heap.size + 1 + 1 + 1 ≠ w.heap.size := by omega
    have n43 : w.heap.size + 1 + 1 ≠ w.heap.size + 1 := by omega
    have n23 := n32.symm
    have n24 := n42.symm
    have n34 := n43.symm
    have C2 : (((((w'.setCell ⟨w.heap.size, 0, none⟩ (.int .i64 t1)).setCell ⟨w.heap.size, 1, none⟩ (.int .i64 t2)).setCell ⟨w.heap.size, 2, none⟩ (.int .i64 t3)).setCell ⟨w.heap.size, 3, none⟩ (.string t4)).setCell ⟨w.heap.size, 4, none⟩ (.slice Ao t5.length co)).heap[w.heap.size]? = some (.cells #[.int .i64 t1, .int .i64 t2, .int .i64 t3, .string t4, .slice Ao t5.length co] 43 (0, 0)) := by
      refine blk_put (cs := #[.int .i64 t1, .int .i64 t2, .int .i64 t3, .string t4, .slice none 0 0]) ?_ 4 _ rfl
      refine blk_put (cs := #[.int .i64 t1, .int .i64 t2, .int .i64 t3, .string ⟨#[]⟩, .slice none 0 0]) ?_ 3 _ rfl
      refine blk_put (cs := #[.int .i64 t1, .int .i64 t2, .int .i64 0, .string ⟨#[]⟩, .slice none 0 0]) ?_ 2 _ rfl
      refine blk_put (cs := #[.int .i64 t1, .int .i64 0, .int .i64 0, .string ⟨#[]⟩, .slice none 0 0]) ?_ 1 _ rfl
      refine blk_put (cs := #[.int .i64 0, .int .i64 0, .int .i64 0, .string ⟨#[]⟩, .slice none 0 0]) ?_ 0 _ rfl
      exact B2
    have C3 : (((((w'.setCell ⟨w.heap.size, 0, none⟩ (.int .i64 t1)).setCell ⟨w.heap.size, 1, none⟩ (.int .i64 t2)).setCell ⟨w.heap.size, 2, none⟩ (.int .i64 t3)).setCell ⟨w.heap.size, 3, none⟩ (.string t4)).setCell ⟨w.heap.size, 4, none⟩ (.slice Ao t5.length co)).heap[w.heap.size + 1]? = some (.cells #[.int .i64 0] 3 (0, 0)) := bf1 n32 B3
    have C4 : (((((w'.setCell ⟨w.heap.size, 0, none⟩ (.int .i64 t1)).setCell ⟨w.heap.size, 1, none⟩ (.int .i64 t2)).setCell ⟨w.heap.size, 2, none⟩ (.int .i64 t3)).setCell ⟨w.heap.size, 3, none⟩ (.string t4)).setCell ⟨w.heap.size, 4, none⟩ (.slice Ao t5.length co)).heap[w.heap.size + 1 + 1]? = some (.cells #[.int .i64 0] 29 (0, 0)) := bf1 n42 B4
    have CG : (((((w'.setCell ⟨w.heap.size, 0, none⟩ (.int .i64 t1)).setCell ⟨w.heap.size, 1, none⟩ (.int .i64 t2)).setCell ⟨w.heap.size, 2, none⟩ (.int .i64 t3)).setCell ⟨w.heap.size, 3, none⟩ (.string t4)).setCell ⟨w.heap.size, 4, none⟩ (.slice Ao t5.length co)).heap[w.heap.size + 1 + 1 + 1]? = some (.cells #[.slice A' l0.length c', .int .i64 t6] 99 (0, 0)) := bf1 nd2 HG
    have HR1 : Kd.R k43 43 (((((w'.setCell ⟨w.heap.size, 0, none⟩ (.int .i64 t1)).setCell ⟨w.heap.size, 1, none⟩ (.int .i64 t2)).setCell ⟨w.heap.size, 2, none⟩ (.int .i64 t3)).setCell ⟨w.heap.size, 3, none⟩ (.string t4)).setCell ⟨w.heap.size, 4, none⟩ (.slice Ao t5.length co)) (w.heap.size + 1 + 1 + 1 + 1) (fun k => w.heap.size + 1 + 1 + 1 + 1 ≤ k) (.slice Ao t5.length co) t5 := Kd.R_far (p := ⟨w.heap.size, 4, none⟩) (Kd.R_far (p := ⟨w.heap.size, 3, none⟩) (Kd.R_far (p := ⟨w.heap.size, 2, none⟩) (Kd.R_far (p := ⟨w.heap.size, 1, none⟩) (Kd.R_far (p := ⟨w.heap.size, 0, none⟩) (HR) (fun k hk => by show k ≠ w.heap.size; omega) (.int .i64 t1)) (fun k hk => by show k ≠ w.heap.size; omega) (.int .i64 t2)) (fun k hk => by show k ≠ w.heap.size; omega) (.int .i64 t3)) (fun k hk => by show k ≠ w.heap.size; omega) (.string t4)) (fun k hk => by show k ≠ w.heap.size; omega) (.slice Ao t5.length co)
    have HB1 : Below w.heap.size w (((((w'.setCell ⟨w.heap.size, 0, none⟩ (.int .i64 t1)).setCell ⟨w.heap.size, 1, none⟩ (.int .i64 t2)).setCell ⟨w.heap.size, 2, none⟩ (.int .i64 t3)).setCell ⟨w.heap.size, 3, none⟩ (.string t4)).setCell ⟨w.heap.size, 4, none⟩ (.slice Ao t5.length co)) := hz1 hB' (Nat.le_refl w.heap.size)
    clear B2 B3 B4 HG HR hB' hR
    generalize (((((w'.setCell ⟨w.heap.size, 0, none⟩ (.int .i64 t1)).setCell ⟨w.heap.size, 1, none⟩ (.int .i64 t2)).setCell ⟨w.heap.size, 2, none⟩ (.int .i64 t3)).setCell ⟨w.heap.size, 3, none⟩ (.string t4)).setCell ⟨w.heap.size, 4, none⟩ (.slice Ao t5.length co)) = W1 at C2 C3 C4 CG HR1 HB1 ⊢
    refine start_ (n := 8) (S := fun w' => w'.cell? ⟨w.heap.size, 0, none⟩ = some (.int .i64 t1) ∧ w'.cell? ⟨w.heap.size, 1, none⟩ = some (.int .i64 t2) ∧ w'.cell? ⟨w.heap.size, 2, none⟩ = some (.int .i64 t3) ∧ w'.cell? ⟨w.heap.size, 3, none⟩ = some (.string t4) ∧ w'.cell? ⟨w.heap.size, 4, none⟩ = some (.slice Ao t5.length co) ∧ w'.cell? ⟨w.heap.size + 1 + 1 + 1, 1, none⟩ = some (.int .i64 t6)) (ds := [6, 7]) #[false, false, false, false, false, false, false, false] (by kernel_rfl) rfl rfl ⟨(blk_cell (blk_drew C2) 0).trans rfl, (blk_cell (blk_drew C2) 1).trans rfl, (blk_cell (blk_drew C2) 2).trans rfl, (blk_cell (blk_drew C2) 3).trans rfl, (blk_cell (blk_drew C2) 4).trans rfl, (blk_cell (blk_drew CG) 1).trans rfl⟩ (fun hHeld => ?_)
    replace C2 := blk_drew C2
    replace C3 := blk_drew C3
    replace C4 := blk_drew C4
    replace CG := blk_drew CG
    replace HR1 := Kd.R_drew HR1
    replace HB1 := below_drew1 HB1
    generalize W1.drew = W2 at C2 C3 C4 CG HR1 HB1 hHeld ⊢
    refine pure_ (i := 1) (N := some 13) (v := ?_) (a' := ?_) #[false, true, false, false, false, false, false, false] rfl rfl (by kernel_rfl) (fun _ _ _ h => hq13 (by decide) h) (Or.inl ⟨by rfl, ?_⟩) ?_ ?_
    rotate_left
    · intro w'
      go_simp
      with_reducible rfl
    rotate_left
    · simp only [Act.put, List.setIfInBounds_toArray, List.set_cons_zero, List.set_cons_succ, i64_w, i32_w]
      rfl
    refine pure_ (i := 2) (N := some 14) (v := ?_) (a' := ?_) #[false, true, true, false, false, false, false, false] rfl rfl (by kernel_rfl) (fun _ _ _ h => hq13 (by decide) h) (Or.inl ⟨by rfl, ?_⟩) ?_ ?_
    rotate_left
    · intro w'
      go_simp
      with_reducible rfl
    rotate_left
    · simp only [Act.put, List.setIfInBounds_toArray, List.set_cons_zero, List.set_cons_succ, i64_w, i32_w]
      rfl
    refine pure_ (i := 3) (N := some 15) (v := ?_) (a' := ?_) #[false, true, true, true, false, false, false, false] rfl rfl (by kernel_rfl) (fun _ _ _ h => hq13 (by decide) h) (Or.inl ⟨by rfl, ?_⟩) ?_ ?_
    rotate_left
    · intro w'
      go_simp
      with_reducible rfl
    rotate_left
    · simp only [Act.put, List.setIfInBounds_toArray, List.set_cons_zero, List.set_cons_succ, i64_w, i32_w]
      rfl
    refine take_ (i := 0) (N := some 12) (v := ?_) (a' := ?_) #[true, true, true, true, false, false, false, false] rfl rfl (by kernel_rfl) (fun _ _ _ h => hq13 (by decide) h) (Or.inl ⟨by rfl, ?_⟩) hHeld ?_ ?_
    rotate_left
    · rintro w' ⟨s0, s1, s2, s3, s4, s5⟩
      go_simp
      with_reducible rfl
    rotate_left
    · simp only [Act.put, List.setIfInBounds_toArray, List.set_cons_zero, List.set_cons_succ, i64_w, i32_w]
      rfl
    refine take_ (i := 4) (N := some 16) (v := ?_) (a' := ?_) #[true, true, true, true, true, false, false, false] rfl rfl (by kernel_rfl) (fun _ _ _ h => hq13 (by decide) h) (Or.inl ⟨by rfl, ?_⟩) hHeld ?_ ?_
    rotate_left
    · rintro w' ⟨s0, s1, s2, s3, s4, s5⟩
      go_simp
      with_reducible rfl
    rotate_left
    · simp only [Act.put, List.setIfInBounds_toArray, List.set_cons_zero, List.set_cons_succ, i64_w, i32_w]
      rfl
    refine one_ (i := 5) (N := none) #[true, true, true, true, true, true, false, false] rfl rfl (by kernel_rfl) (by decide) (fun K hK => ?_)
    obtain ⟨x0, x1, x2, x3, x4⟩ := cs5 C2
    obtain ⟨f0, f1, f2, f3, f4⟩ := fs5 C2
    have D2 : (((((W2.setCell ⟨w.heap.size, 0, none⟩ (.int .i64 t1)).setCell ⟨w.heap.size, 1, none⟩ (.int .i64 t2)).setCell ⟨w.heap.size, 2, none⟩ (.int .i64 t3)).setCell ⟨w.heap.size, 3, none⟩ (.string t4)).setCell ⟨w.heap.size, 4, none⟩ (.slice Ao t5.length co)).heap[w.heap.size]? = some (.cells #[.int .i64 t1, .int .i64 t2, .int .i64 t3, .string t4, .slice Ao t5.length co] 43 (0, 0)) := by
      refine blk_put (cs := #[.int .i64 t1, .int .i64 t2, .int .i64 t3, .string t4, .slice Ao t5.length co]) ?_ 4 _ rfl
      refine blk_put (cs := #[.int .i64 t1, .int .i64 t2, .int .i64 t3, .string t4, .slice Ao t5.length co]) ?_ 3 _ rfl
      refine blk_put (cs := #[.int .i64 t1, .int .i64 t2, .int .i64 t3, .string t4, .slice Ao t5.length co]) ?_ 2 _ rfl
      refine blk_put (cs := #[.int .i64 t1, .int .i64 t2, .int .i64 t3, .string t4, .slice Ao t5.length co]) ?_ 1 _ rfl
      refine blk_put (cs := #[.int .i64 t1, .int .i64 t2, .int .i64 t3, .string t4, .slice Ao t5.length co]) ?_ 0 _ rfl
      exact C2
    have D3 : (((((W2.setCell ⟨w.heap.size, 0, none⟩ (.int .i64 t1)).setCell ⟨w.heap.size, 1, none⟩ (.int .i64 t2)).setCell ⟨w.heap.size, 2, none⟩ (.int .i64 t3)).setCell ⟨w.heap.size, 3, none⟩ (.string t4)).setCell ⟨w.heap.size, 4, none⟩ (.slice Ao t5.length co)).heap[w.heap.size + 1]? = some (.cells #[.int .i64 0] 3 (0, 0)) := bf1 n32 C3
    have D4 : (((((W2.setCell ⟨w.heap.size, 0, none⟩ (.int .i64 t1)).setCell ⟨w.heap.size, 1, none⟩ (.int .i64 t2)).setCell ⟨w.heap.size, 2, none⟩ (.int .i64 t3)).setCell ⟨w.heap.size, 3, none⟩ (.string t4)).setCell ⟨w.heap.size, 4, none⟩ (.slice Ao t5.length co)).heap[w.heap.size + 1 + 1]? = some (.cells #[.int .i64 0] 29 (0, 0)) := bf1 n42 C4
    have DG : (((((W2.setCell ⟨w.heap.size, 0, none⟩ (.int .i64 t1)).setCell ⟨w.heap.size, 1, none⟩ (.int .i64 t2)).setCell ⟨w.heap.size, 2, none⟩ (.int .i64 t3)).setCell ⟨w.heap.size, 3, none⟩ (.string t4)).setCell ⟨w.heap.size, 4, none⟩ (.slice Ao t5.length co)).heap[w.heap.size + 1 + 1 + 1]? = some (.cells #[.slice A' l0.length c', .int .i64 t6] 99 (0, 0)) := bf1 nd2 CG
    have HR2 : Kd.R k43 43 (((((W2.setCell ⟨w.heap.size, 0, none⟩ (.int .i64 t1)).setCell ⟨w.heap.size, 1, none⟩ (.int .i64 t2)).setCell ⟨w.heap.size, 2, none⟩ (.int .i64 t3)).setCell ⟨w.heap.size, 3, none⟩ (.string t4)).setCell ⟨w.heap.size, 4, none⟩ (.slice Ao t5.length co)) (w.heap.size + 1 + 1 + 1 + 1) (fun k => w.heap.size + 1 + 1 + 1 + 1 ≤ k) (.slice Ao t5.length co) t5 := Kd.R_far (p := ⟨w.heap.size, 4, none⟩) (Kd.R_far (p := ⟨w.heap.size, 3, none⟩) (Kd.R_far (p := ⟨w.heap.size, 2, none⟩) (Kd.R_far (p := ⟨w.heap.size, 1, none⟩) (Kd.R_far (p := ⟨w.heap.size, 0, none⟩) (HR1) (fun k hk => by show k ≠ w.heap.size; omega) (.int .i64 t1)) (fun k hk => by show k ≠ w.heap.size; omega) (.int .i64 t2)) (fun k hk => by show k ≠ w.heap.size; omega) (.int .i64 t3)) (fun k hk => by show k ≠ w.heap.size; omega) (.string t4)) (fun k hk => by show k ≠ w.heap.size; omega) (.slice Ao t5.length co)
    have HB2 : Below w.heap.size w (((((W2.setCell ⟨w.heap.size, 0, none⟩ (.int .i64 t1)).setCell ⟨w.heap.size, 1, none⟩ (.int .i64 t2)).setCell ⟨w.heap.size, 2, none⟩ (.int .i64 t3)).setCell ⟨w.heap.size, 3, none⟩ (.string t4)).setCell ⟨w.heap.size, 4, none⟩ (.slice Ao t5.length co)) := hz1 HB1 (Nat.le_refl w.heap.size)
    refine skip_ (w1 := ?_) (by rfl) rfl ?_ ?_
    rotate_left
    · go_simp
      rfl
    refine hK.out _ _ ⟨(blk_cell D2 0).trans rfl, (blk_cell D2 1).trans rfl, (blk_cell D2 2).trans rfl, (blk_cell D2 3).trans rfl, (blk_cell D2 4).trans rfl, (blk_cell DG 1).trans rfl⟩ (fun hHeld => ?_)
    clear hK K
    refine last_ (i := 6) (N := none) #[true, true, true, true, true, true, true, false] rfl rfl (by kernel_rfl) (by decide) (fun K hK => ?_)
    clear x0 x1 x2 x3 x4 f0 f1 f2 f3 f4 C2 C3 C4 CG HR1 HB1
    generalize (((((W2.setCell ⟨w.heap.size, 0, none⟩ (.int .i64 t1)).setCell ⟨w.heap.size, 1, none⟩ (.int .i64 t2)).setCell ⟨w.heap.size, 2, none⟩ (.int .i64 t3)).setCell ⟨w.heap.size, 3, none⟩ (.string t4)).setCell ⟨w.heap.size, 4, none⟩ (.slice Ao t5.length co)) = W3 at D2 D3 D4 DG HR2 HB2 hHeld ⊢
    have x0 := cs1 D3
    have f0 := fs1 D3
    refine skip_ (w1 := ?_) (by rfl) rfl ?_ ?_
    rotate_left
    · go_simp
      rfl
    refine hK.out _ _ ?_
    clear hK K
    refine last_ (i := 7) (N := none) #[true, true, true, true, true, true, true, true] rfl rfl (by kernel_rfl) (by decide) (fun K hK => ?_)
    have G2 : (W3.setCell ⟨w.heap.size + 1, 0, none⟩ (.int .i64 t6)).heap[w.heap.size]? = some (.cells #[.int .i64 t1, .int .i64 t2, .int .i64 t3, .string t4, .slice Ao t5.length co] 43 (0, 0)) := bf1 n23 D2
    have G3 : (W3.setCell ⟨w.heap.size + 1, 0, none⟩ (.int .i64 t6)).heap[w.heap.size + 1]? = some (.cells #[.int .i64 t6] 3 (0, 0)) := blk_put (cs := #[.int .i64 0]) D3 0 _ rfl
    have G4 : (W3.setCell ⟨w.heap.size + 1, 0, none⟩ (.int .i64 t6)).heap[w.heap.size + 1 + 1]? = some (.cells #[.int .i64 0] 29 (0, 0)) := bf1 n43 D4
    have HR3 : Kd.R k43 43 (W3.setCell ⟨w.heap.size + 1, 0, none⟩ (.int .i64 t6)) (w.heap.size + 1 + 1 + 1 + 1) (fun k => w.heap.size + 1 + 1 + 1 + 1 ≤ k) (.slice Ao t5.length co) t5 := Kd.R_far (p := ⟨w.heap.size + 1, 0, none⟩) HR2 (fun k hk => by show k ≠ w.heap.size + 1; omega) (.int .i64 t6)
    have HB3 : Below w.heap.size w (W3.setCell ⟨w.heap.size + 1, 0, none⟩ (.int .i64 t6)) := hz1 HB2 (show w.heap.size ≤ w.heap.size + 1 by omega)
    clear x0 f0 D2 D3 D4 DG HR2 HB2 hHeld
    generalize (W3.setCell ⟨w.heap.size + 1, 0, none⟩ (.int .i64 t6)) = W4 at G2 G3 G4 HR3 HB3 ⊢
    have x0 := cs1 G4
    have f0 := fs1 G4
    refine skip_ (w1 := ?_) (by rfl) rfl ?_ ?_
    rotate_left
    · go_simp
      rfl
    refine hK.out _ _ ?_
    clear hK K
    refine done_ (by kernel_rfl) ?_

    have K2 : (W4.setCell ⟨w.heap.size + 1 + 1, 0, none⟩ (.int .i64 0)).heap[w.heap.size]? = some (.cells #[.int .i64 t1, .int .i64 t2, .int .i64 t3, .string t4, .slice Ao t5.length co] 43 (0, 0)) := bf1 n24 G2
    have K3 : (W4.setCell ⟨w.heap.size + 1 + 1, 0, none⟩ (.int .i64 0)).heap[w.heap.size + 1]? = some (.cells #[.int .i64 t6] 3 (0, 0)) := bf1 n34 G3
    have K4 : (W4.setCell ⟨w.heap.size + 1 + 1, 0, none⟩ (.int .i64 0)).heap[w.heap.size + 1 + 1]? = some (.cells #[.int .i64 0] 29 (0, 0)) := blk_put (cs := #[.int .i64 0]) G4 0 _ rfl
    have HR4 : Kd.R k43 43 (W4.setCell ⟨w.heap.size + 1 + 1, 0, none⟩ (.int .i64 0)) (w.heap.size + 1 + 1 + 1 + 1) (fun k => w.heap.size + 1 + 1 + 1 + 1 ≤ k) (.slice Ao t5.length co) t5 := Kd.R_far (p := ⟨w.heap.size + 1 + 1, 0, none⟩) HR3 (fun k hk => by show k ≠ w.heap.size + 1 + 1; omega) (.int .i64 0)
    have HB4 : Below w.heap.size w (W4.setCell ⟨w.heap.size + 1 + 1, 0, none⟩ (.int .i64 0)) := hz1 HB3 (show w.heap.size ≤ w.heap.size + 1 + 1 by omega)
    clear x0 f0 G2 G3 G4 HR3 HB3
    generalize (W4.setCell ⟨w.heap.size + 1 + 1, 0, none⟩ (.int .i64 0)) = W5 at K2 K3 K4 HR4 HB4 ⊢
    go_wp2
    refine leaves_cons (f := 66) (args := #[.pointer (some ⟨w.heap.size, 0, none⟩), .pointer (some ⟨w.heap.size + 1, 0, none⟩), .pointer (some ⟨w.heap.size + 1 + 1, 0, none⟩)]) (by simp) (by simp [go_sem]) ?_
    refine (catch_idle w.heap.size (w.heap.size + 1) (w.heap.size + 1 + 1) W5).mono ?_
    rintro e u' w'' ⟨rfl, rfl, rfl⟩
    obtain ⟨d0, d1, d2, d3, d4⟩ := cs5 (blk_alloc K2 (.cells #[.int .i64 0] 95))
    have d5 := cs1 (blk_alloc K3 (.cells #[.int .i64 0] 95))
    have d6 := cs1 (blk_alloc K4 (.cells #[.int .i64 0] 95))
    have HR5 : Kd.R k43 43 (W5.alloc (.cells #[.int .i64 0] 95)) w.heap.size (fun _ => True) (.slice Ao t5.length co) t5 := Kd.R_lower (Kd.R_mono (Kd.R_alloc HR4 _) (fun _ _ => trivial)) (by omega)
    have HB5 : Below w.heap.size w (W5.alloc (.cells #[.int .i64 0] 95)) := hz HB4
    generalize W5.alloc (.cells #[.int .i64 0] 95) = W6 at d0 d1 d2 d3 d4 d5 d6 HR5 HB5 ⊢
    simp [Leaves, settle, results, Tryd.results57, go_sem, d0, d1, d2, d3, d4, d5, d6]
    exact ⟨HR5, HB5⟩
  · rw [if_neg c7] at h
    simp only [Option.some.injEq, Prod.mk.injEq] at h
    obtain ⟨rfl, rfl, rfl, rfl, rfl, rfl, rfl⟩ := h
    go_enter_defers Tryd.func57, Tryd.ntmps57
    go_wp2_with (first | ((with_reducible refine gate_callee (f := 67) rfl ?_); refine goesLP_ (some 11) rfl rfl Tryd.func67 (by kernel_rfl) rfl #[.pointer (some ⟨w.heap.size + 1 + 1 + 1, 0, none⟩), .int .i64 1] rfl lz ?_; refine (codec_decoder_node.calls k (w.heap.size + 1 + 1 + 1) l0 0 1 t1 t2 t3 t4 t5 t6 t7 w _ hI hB4 hn).mono ?_; rintro e w' ⟨v4, he_, hR, hI', hB', hK'⟩; have B2 := (hK'.2 w.heap.size (blk_lt b2) (by omega) (by simp)).trans b2; have B3 := (hK'.2 (w.heap.size + 1) (blk_lt b3) (by omega) (by simp)).trans b3; have B4 := (hK'.2 (w.heap.size + 1 + 1) (blk_lt b4) (by omega) (by simp)).trans b4; clear b2 b3 b4 hK' hI; refine pan_ he_ (beq_eq_false_iff_ne.mpr c7) ?_))
    refine leaves_cons (f := 66) (args := #[.pointer (some ⟨w.heap.size, 0, none⟩), .pointer (some ⟨w.heap.size + 1, 0, none⟩), .pointer (some ⟨w.heap.size + 1 + 1, 0, none⟩)]) (by simp) (by simp [go_sem]) ?_
    refine (catch_panicking w.heap.size (w.heap.size + 1) (w.heap.size + 1 + 1) t7 _ _ _ _ _ _ _ w' B2 B3 B4 w hB' (Nat.le_refl _) (by omega) (by omega)).mono ?_
    rintro e u' w'' ⟨rfl, rfl, D2, D3, D4, hB''⟩
    obtain ⟨d0, d1, d2, d3, d4⟩ := cs5 D2
    have d5 := cs1 D3
    have d6 := cs1 D4
    simp [Leaves, settle, results, Tryd.results57, go_sem, d0, d1, d2, d3, d4, d5, d6]
    exact ⟨Kd.R_nil _ _ _ _ _, hB''⟩

end Go.Proofs.YteeggfnailpcpaaDoor.Q
