/- UploadRests: the row: for every inbox, journal and size the law returns true; each argument reads as it read; without conditions. -/
import Derived.Test.YtglpnbcockancaaRows
import Derived.Test.YtglpnbcockancaaPureUploadRests
import Derived.WalkKit
import Derived.ProofKit
import Derived.OpenShut
import Derived.ShutString
import Derived.ChangeOld
import Derived.Below
import Derived.SizedLaws
import Derived.Lib.SmallJoins
import Derived.Test.YtglpnbcockancaaWSized
namespace Go.Proofs.Ytglpnbcockancaa.uploadRests
open Go.ChangeShapes Go.WideShapes Go.ChangeAt Go.RowKit
open Go.Proofs.Ytglpnbcockancaa.Q Go.Proofs.Ytglpnbcockancaa.Dig Go.Proofs.YtglpnbcockancaaW.PrintWords Go.Proofs.YtglpnbcockancaaW.PrintLast Go.Proofs.YtglpnbcockancaaW.PrintMore
set_option linter.unusedVariables false
theorem own : ownKnob Try.prog.godebug = none := by kernel_rfl
theorem laidOut : laidOutB Try.prog = true := by kernel_rfl
section
variable {H : Type} {enc : TypeId × Value → H} {w : World}
/-- A slice of bytes, opened. -/
theorem open_bytes {fuel : Nat} {v : Value} {x : DataW H × List MemPlace} (h : DataW.trod enc Try.prog w 0 (fun _ => true) true fuel 22 [v] = some x) :
    ∃ (A : Option Addr) (c : Nat) (l : List Int), v = .slice A l.length c ∧ l.length ≤ c ∧ l.length ≤ maxLen ∧ (Kd.int .u8).C w A l.length l ∧ Bytes l := by
  rcases open_ints Try.underlying22 Try.underlying5 (by kernel_rfl) h with ⟨hcs, _⟩ | ⟨a, len, cap, zs, hcs, _, hl, hm, hz, _, hcell, hwz⟩
  · obtain rfl : v = .slice none 0 0 := by simpa using hcs
    obtain ⟨l, e, hr, hm, hw, hc⟩ := ReadsInt.ofRowC (k := .u8) (w := w) (a := none) (len := 0) (cap := 0) (zs := []) (.inl ⟨rfl, rfl, rfl, rfl⟩)
    exact ⟨none, 0, l, by rw [← e], hc, hm, Kd.C_of_reads (d := (0 : Int)) (h1 := fun _ => rfl) hr, bytes_of_wf hw⟩
  · obtain rfl : v = .slice (some a) len cap := by simpa using hcs
    obtain ⟨l, e, hr, hm', hw, hc⟩ := ReadsInt.ofRowC (k := .u8) (w := w) (a := some a) (len := len) (cap := cap) (zs := zs) (.inr ⟨a, rfl, hl, hm, by simpa using hz, hcell, hwz⟩)
    exact ⟨some a, cap, l, by rw [← e], hc, hm', Kd.C_of_reads (d := (0 : Int)) (h1 := fun _ => rfl) hr, bytes_of_wf hw⟩
/-- A packet, opened at its cells. -/
theorem open_packet {fuel : Nat} {cs : List Value} {x : DataW H × List MemPlace} (h : DataW.trod enc Try.prog w 0 (fun _ => true) true fuel 25 cs = some x) : ∃ p : S25, k25.K w p cs := by
  obtain ⟨y0, y1, y2, y3, n, _, hl, h0, h1, h2, h3⟩ := Go.Joins.trod_struct4 Try.underlying25 h
  have hl4 : cs.length = 4 := hl.trans (by kernel_rfl)
  obtain ⟨c0, c1, c2, c3, rfl⟩ : ∃ c0 c1 c2 c3, cs = [c0, c1, c2, c3] := by
    match cs, hl4 with
    | [c0, c1, c2, c3], _ => exact ⟨c0, c1, c2, c3, rfl⟩
  have s3 : Try.prog.cellsOf 3 = 1 := by kernel_rfl
  have s22 : Try.prog.cellsOf 22 = 1 := by kernel_rfl
  have s23 : Try.prog.cellsOf 23 = 1 := by kernel_rfl
  simp only [s3, s22, s23, List.drop_zero, List.drop_succ_cons, List.take_succ_cons, List.take_zero] at h0 h1 h2 h3
  obtain ⟨a0, e0, _, _⟩ := DataW.trod_int Try.underlying3 h0
  obtain ⟨a1, e1, _, _⟩ := DataW.trod_int Try.underlying3 h1
  obtain ⟨A, c, l, e2, hc, _, hr, _⟩ := open_bytes h2
  obtain ⟨a3, e3, _, _⟩ := DataW.trod_int Try.underlying23 h3
  simp only [List.cons.injEq, and_true] at e0 e1 e3
  subst e0 e1 e2 e3
  exact ⟨⟨a0, a1, l, a3⟩, k25_mk w ⟨a0, a1, l, a3⟩ hc hr⟩
/-- A slice of packets, opened. -/
theorem open_packets {fuel : Nat} {v : Value} {x : DataW H × List MemPlace} (h : DataW.trod enc Try.prog w 0 (fun _ => true) true fuel 30 [v] = some x) :
    ∃ (A : Option Addr) (c : Nat) (l : List S25), v = .slice A l.length c ∧ l.length ≤ c ∧ Kd.C k25 w A l.length l := by
  rcases Go.Deep.open_slice Try.underlying30 h with ⟨hcs, _⟩ | ⟨a, len, cap, m, n, D, Pl, hcs, _, hl, hm, hmm, _, hx⟩
  · obtain rfl : v = .slice none 0 0 := by simpa using hcs
    exact ⟨none, 0, [], rfl, Nat.le_refl _, rfl, by decide, fun h => absurd h (by decide)⟩
  · obtain rfl : v = .slice (some a) len cap := by simpa using hcs
    have hmc : m = cap := by simpa using hmm
    have s25 : Try.prog.cellsOf 25 = 4 := by kernel_rfl
    haveI : Inhabited S25 := ⟨z25⟩
    obtain ⟨f, hf⟩ := Go.Deep.choose_lt (n := len) (p := fun i (p : S25) => ∃ cs, w.cells? 0 (a.add (i * 4)) 4 = some cs ∧ k25.K w p cs) (by
      intro i hi
      obtain ⟨cs, h1, h2⟩ := hx i (by omega)
      rw [s25] at h1
      obtain ⟨p, hp⟩ := open_packet h2
      exact ⟨p, cs, h1, hp⟩)
    refine ⟨some a, cap, (List.range len).map f, by rw [List.length_map, List.length_range], by rw [List.length_map, List.length_range]; exact hl, ?_⟩
    rw [List.length_map, List.length_range]
    refine ⟨by rw [List.length_map, List.length_range], by have : maxLen ≤ 9223372036854775807 := by decide
                                                           omega, fun _ => ⟨a, rfl, fun j p hj => ?_⟩⟩
    have hlt : j < len := by
      have := (List.getElem?_eq_some_iff.1 hj).1
      simpa using this
    have hp : p = f j := by
      rw [List.getElem?_map, List.getElem?_range hlt] at hj
      simpa using hj.symm
    obtain ⟨cs, h1, h2⟩ := hf j hlt
    obtain ⟨_, h4, h5⟩ := World.cells?_some h1
    subst hp
    refine ⟨cs, h4, h2, fun i u hu => ?_⟩
    have hi : i < 4 := by rw [← h4]; exact (List.getElem?_eq_some_iff.1 hu).1
    have := h5 i hi
    rw [hu, Go.Addr.add_add] at this
    exact this
end
set_option maxHeartbeats 4000000 in
set_option maxRecDepth 100000 in
theorem lifted (os : Os) (started : os.Started) (H : Type) (enc : TypeId × Value → H) :
    ReturnsInHanded {} Try.checked os 7 .any (Rows.uploadRestsSpec.pre6 enc Try.prog Try.f7 Rows.uploadRestsRow.domain false) (Rows.uploadRestsSpec.post enc Try.prog Try.f7 false true false false) := by
  refine returnsInHanded_of_change_sized (C := Try.checked) own started (by kernel_rfl) Try.func7
    (ChangeSpec.witness6 (enc := enc) (C := Try.checked) false ⟨#[], #[.agg #[.int .i64 0, .slice none 0 0, .slice none 0 0], .slice none 0 0, .int .i64 0], []⟩ 8 (by kernel_rfl) (by kernel_rfl) (by kernel_rfl) (by kernel_rfl)) ?_
  intro W base args ds gs before hval0 hW hcnd hsz0 _
  have hval : ∀ (j : Nat) t v, Try.f7.params[j]? = some t → args[j]? = some v → Value.okWide Try.prog W .any base t v := hval0
  have hW' := hW
  obtain ⟨p, q, hA0, hV, rfl, hfz, hnd⟩ := hW
  have hA : DataW.TrodAll enc Try.prog W 0 (fun _ => true) true Try.f7.params.toList args.toList ds p := hA0
  have hsz : (DataW.weightsEach Try.prog (Try.f7.params.toList ++ Rows.uploadRestsSpec.plain.varTypes Try.prog) (ds ++ gs)).all (· ≤ reachBytes) = true := hsz0
  rw [Try.params7] at hA hval hsz
  obtain ⟨v0, vs0, d0, ds0, p0, q0, hargs, rfl, rfl, h0, r0⟩ := trodAll_cons hA
  obtain ⟨v1, vs1, d1, ds1, p1, q1, rfl, rfl, rfl, h1, r1⟩ := trodAll_cons r0
  obtain ⟨v2, vs2, d2, ds2, p2, q2, rfl, rfl, rfl, h2, r2⟩ := trodAll_cons r1
  obtain ⟨rfl, rfl, rfl⟩ := trodAll_nil r2
  obtain rfl : args = #[v0, v1, v2] := by cases args; simp_all
  obtain ⟨rfl, rfl⟩ := trodVars_none hV
  have k0 := h0
  have k1 := h1
  have lt0 : ∀ x ∈ p0, x.block < W.heap.size := by obtain ⟨m, hm⟩ := k0; exact DataW.trod_lt m _ _ _ hm
  have lt1 : ∀ x ∈ p1, x.block < W.heap.size := by obtain ⟨m, hm⟩ := k1; exact DataW.trod_lt m _ _ _ hm
  obtain ⟨i0, i1, i2, u0, u1, u2, n, rfl, hd0, hp0, t0, t1, t2⟩ := Go.Joins.open_agg3 Try.underlying34 (by kernel_rfl) (by kernel_rfl) (hval 0 34 v0 rfl rfl) h0
  obtain ⟨s, es, _, _⟩ := DataW.trod_int Try.underlying3 t0
  simp only [List.cons.injEq, and_true] at es
  subst es
  obtain ⟨A1, c1, b, rfl, hc1, _, hr1, hb⟩ := open_bytes t1
  obtain ⟨A2, c2, q, rfl, hc2, hr2⟩ := open_packets t2
  obtain ⟨a1, len1, cap1, rfl⟩ := okWide_slice Try.underlying22 (hval 1 22 v1 rfl rfl)
  have y1 : len1 * 1 ≤ 140737488351232 := Go.Proofs.YtglpnbcockancaaW.PrintWords.sized_ints hsz (j := 1) (t := 22) rfl rfl Try.underlying22 Try.underlying5 (by kernel_rfl) (by kernel_rfl) h1
  clear hsz hsz0
  obtain ⟨f1, hf1⟩ := h1
  have hf1' : DataW.trod enc Try.prog W 0 (fun _ => true) true f1 22 [Value.slice a1 len1 cap1] = some (d1, p1) := by simpa [Value.cells] using hf1
  obtain ⟨A3, c3, l, e3, hc3, hm3, hr3, hl⟩ := open_bytes hf1'
  simp only [Value.slice.injEq] at e3
  obtain ⟨rfl, rfl, rfl⟩ := e3
  obtain ⟨m, rfl, rfl, rfl, w2⟩ := open_int Try.underlying3 (hval 2 3 v2 rfl rfl) h2
  obtain ⟨k, h⟩ := Pure.UploadRests s b l q m hb hl (by omega)
  refine (Q.examboardlaw53_UploadRests.calls k s A1 c1 b A2 c2 q _ _ l m true W hr1 hc1 hr2 hc2 hr3 hc3 h).mono fun e W' ⟨he, bel⟩ => ?_
  subst he
  exact ⟨_, rfl, _, _, _, [], _, [], hW', trodAll_mk1 (shut_bool Try.underlying4 _), (trodAll_cons_mk (Below.trod laidOut (by kernel_rfl) (of_decide_eq_true (by kernel_rfl)) k0 bel lt0) (trodAll_cons_mk (Below.trod laidOut (by kernel_rfl) (of_decide_eq_true (by kernel_rfl)) k1 bel lt1) (trodAll_cons_mk (shut_int Try.underlying3 w2) trodAll_mk0))), rfl, bel.frame _, fun h => by cases h⟩
theorem over : Rows.uploadRestsRow.holds Try.pinned (OpenSpec.ofChange Rows.uploadRestsSpec) :=
  OpenClaim.holds_of_wide 7 Try.f7 rfl rfl rfl rfl rfl rfl rfl ⟨rfl, rfl, rfl, rfl, rfl⟩ rfl rfl rfl rfl rfl (by kernel_rfl) Try.func7 (by kernel_rfl)
    (of_decide_eq_true (by kernel_rfl)) (by unfold Func.isWrapper; first | (rw [if_pos (by decide +kernel)]; kernel_rfl) | (rw [if_neg (by decide +kernel)]; exact ⟨rfl, rfl⟩))
    (fun os started H enc _ => lifted os started H enc)
theorem proved : Rows.UploadRestsSaid := over
#print axioms proved
end Go.Proofs.Ytglpnbcockancaa.uploadRests
namespace Go.Proofs.Ytglpnbcockancaa
/-- The row, under a short name, for the claim. -/
theorem uploadRests_holds : Rows.UploadRestsSaid := uploadRests.proved
end Go.Proofs.Ytglpnbcockancaa
