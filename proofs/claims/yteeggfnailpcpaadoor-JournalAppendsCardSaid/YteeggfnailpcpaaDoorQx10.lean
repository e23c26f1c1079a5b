/- Made by wip/myprint.py of this session (it drives the kit's printer): what the calls of the Go functions come to, as plain Lean functions, and the row of a law over them; without conditions. -/
import Derived.Test.YteeggfnailpcpaaDoorQx0
import Derived.Test.YteeggfnailpcpaaDoorQx1
import Derived.Test.YteeggfnailpcpaaDoorQx4
import Derived.Test.YteeggfnailpcpaaDoorQx9
namespace Go.Proofs.YteeggfnailpcpaaDoor.Q
open Go.RowKit Go.Proofs.YteeggfnailpcpaaDoorW.PrintWords Go.Proofs.YteeggfnailpcpaaDoorW.PrintLast Go.Proofs.YteeggfnailpcpaaDoorW.PrintMore
attribute [local go_sem] max2_int min2_int max_two min_two max_three min_three max_four min_four   -- for this text's walks alone
set_option linter.unusedVariables false
set_option linter.unusedSimpArgs false

/-! ### examboardlaw49_awake: function 16 -/
def examboardlaw49_awake.f (k : Nat)  : Option (Bool) := (journal_Append.f k ([] : List Int) 1 1 5 (⟨#[]⟩ : ByteArray) ([] : List (S43))).bind fun bt344 => (if bt344.2 = 0 then (if (bt344.1.length : Int) = 15 then (if 7 ≤ (bt344.1.length : Int) then ((examboardlaw49_equal.f k (bt344.1.take 7) (([0, 0, 0, 3, 1, 1, 10] : List Int))).bind fun t355 => (if t355 = true then ((journal_Read.f k bt344.1).bind fun bt356 => (if 14 ≤ (bt344.1.length : Int) then ((journal_Read.f k (bt344.1.take 14)).bind fun bt365 => ((journal_Last.f k bt344.1).bind fun bt370 => (if (bt356.1.length : Int) = 1 then (if 0 < (bt356.1.length : Int) then (if ((rd_T43 bt356.1 0).f2) = 5 then (if bt356.2.1 = 15 then (if bt356.2.2 = 0 then (if (bt365.1.length : Int) = 0 then (if bt365.2.1 = 0 then (if bt365.2.2 = 4 then ((digest_Of.f k ([] : List Int)).bind fun t373 => ((digest_Chain.f k t373 (bt344.1.take 7)).bind fun t378 => (if bt370.1 = t378 then (if bt370.2 = 0 then (if 3 ≤ (bt344.1.length : Int) then ((journal_Extends.f bt344.1 (bt344.1.take 3)).bind fun t383 => (if t383 = true then ((journal_Count.f k bt344.1).bind fun t384 => (some (t384 == 1))) else (none))) else (none)) else (none)) else (none)))) else (none)) else (none)) else (none)) else (none)) else (none)) else (none)) else (none)) else (none)))) else (none))) else (none))) else (none)) else (none)) else (none))
theorem examboardlaw49_awake.mono : ∀ k, LeO (examboardlaw49_awake.f k ) (examboardlaw49_awake.f (k + 1) ) := by
 intro  k
 unfold examboardlaw49_awake.f
 repeat' first
   | (with_reducible exact digest_Chain.mono _ _ _)
   | (with_reducible exact digest_Of.mono _ _)
   | (with_reducible exact examboardlaw49_equal.mono _ _ _)
   | (with_reducible exact journal_Append.mono _ _ _ _ _ _ _)
   | (with_reducible exact journal_Count.mono _ _)
   | (with_reducible exact journal_Last.mono _ _)
   | (with_reducible exact journal_Read.mono _ _)
   | (with_reducible exact LeO.refl _)
   | (with_reducible exact LeO.none _)
   | (with_reducible refine LeO.ite ?_ ?_)
   | (with_reducible refine LeO.bind ?_ (fun _ => ?_))
   | exact digest_Chain.mono _ _ _
   | exact digest_Of.mono _ _
   | exact examboardlaw49_equal.mono _ _ _
   | exact journal_Append.mono _ _ _ _ _ _ _
   | exact journal_Count.mono _ _
   | exact journal_Last.mono _ _
   | exact journal_Read.mono _ _
   | exact LeO.none _
   | refine LeO.ite ?_ ?_
   | refine LeO.bind ?_ (fun _ => ?_)
def examboardlaw49_awake.T7 : Bool × List (List Nat × List Nat) := (true, [([], []), ([0], [0]), ([1], [1]), ([2], [2]), ([3], [3]), ([4, 3], [3, 4]), ([5, 3], [3, 5]), ([6, 3], [3, 6]), ([7, 3], [3, 7]), ([3, 8], [3, 8]), ([9, 3], [9]), ([10], [10]), ([11, 10], [10, 11]), ([10, 12], [10, 12]), ([13, 10], [13]), ([14], [14]), ([15, 14], [14, 15]), ([14, 16], [14, 16]), ([17, 14], [17]), ([18], [18]), ([19, 18], [18, 19]), ([20, 18], [18, 20]), ([18, 21], [18, 21]), ([22, 18], [22]), ([23], [23]), ([24, 23], [23, 24]), ([23, 25], [23, 25]), ([26, 23], [26]), ([27], [27]), ([28, 27], [27, 28]), ([27, 29], [27, 29]), ([30, 27], [30]), ([31], [31]), ([31, 31], [31]), ([31], [31]), ([34, 31], [31, 34]), ([33, 35, 33, 31], [31, 33, 35]), ([32, 36, 31], [31, 32, 36]), ([31, 37], [31, 37]), ([38, 36], [38]), ([39], [39]), ([40, 39], [39, 40]), ([39, 41], [39, 41]), ([42, 39], [42]), ([43], [43]), ([43], [43]), ([45, 43], [43, 45]), ([44, 46, 43, 43], [43, 44, 46]), ([43, 47], [43, 47]), ([48, 47], [48]), ([49], [49]), ([50, 49, 49], [49, 50]), ([51, 49], [49, 51]), ([49, 52], [49, 52]), ([53, 51, 0, 1, 2, 3, 4, 5, 6, 7, 8, 9, 10, 11, 12, 13, 14, 15, 16, 17, 18, 19, 20, 21, 22, 23, 24, 25, 26, 27, 28, 29, 30, 31, 32, 33, 34, 35, 36, 37, 38, 39, 40, 41, 42, 43, 44, 45, 46, 47, 48, 49, 50, 51, 52, 53], [53])])
def examboardlaw49_awake.B7 : List Nat := [0, 1, 3, 7, 15, 31, 63, 127, 255, 511, 1023, 2047, 4095, 8191, 16383, 32767, 65535, 131071, 262143, 524287, 1048575, 2097151, 4194303, 8388607, 16777215, 33554431, 67108863, 134217727, 268435455, 536870911, 1073741823, 2147483647, 4294967295, 4294967295, 4294967295, 21474836479, 64424509439, 137438953471, 274877906943, 549755813887, 1099511627775, 2199023255551, 4398046511103, 8796093022207, 17592186044415, 17592186044415, 52776558133247, 140737488355327, 281474976710655, 562949953421311, 1125899906842623, 2251799813685247, 4503599627370495, 9007199254740991, 18014398509481983]
theorem examboardlaw49_awake.tab7 : rtab .any (opsOf Tryd.f16 7) = examboardlaw49_awake.T7 := by kernel_rfl
theorem examboardlaw49_awake.bits7 : waitsOk examboardlaw49_awake.T7.2 examboardlaw49_awake.B7 = true := by kernel_rfl
set_option maxHeartbeats 8000000 in
set_option maxRecDepth 100000 in
theorem examboardlaw49_awake.calls (k : Nat)  (r : Bool) (w : World) (hG : GlE w) (h : examboardlaw49_awake.f k  = some r) :
  Calls Tryd.prog 16 #[] w fun e w' => e = .returned (.bool r) ∧ Below w.heap.size w w' := by
 have hu43 := Tryd.underlying43
 have HG_ := am hG
 clear hG
 have HB := am (Below.refl w.heap.size w)
 have H : ((journal_Append.f k ([] : List Int) 1 1 5 (⟨#[]⟩ : ByteArray) ([] : List (S43))).bind fun bt344 => (if bt344.2 = 0 then (if (bt344.1.length : Int) = 15 then (if 7 ≤ (bt344.1.length : Int) then ((examboardlaw49_equal.f k (bt344.1.take 7) (([0, 0, 0, 3, 1, 1, 10] : List Int))).bind fun t355 => (if t355 = true then ((journal_Read.f k bt344.1).bind fun bt356 => (if 14 ≤ (bt344.1.length : Int) then ((journal_Read.f k (bt344.1.take 14)).bind fun bt365 => ((journal_Last.f k bt344.1).bind fun bt370 => (if (bt356.1.length : Int) = 1 then (if 0 < (bt356.1.length : Int) then (if ((rd_T43 bt356.1 0).f2) = 5 then (if bt356.2.1 = 15 then (if bt356.2.2 = 0 then (if (bt365.1.length : Int) = 0 then (if bt365.2.1 = 0 then (if bt365.2.2 = 4 then ((digest_Of.f k ([] : List Int)).bind fun t373 => ((digest_Chain.f k t373 (bt344.1.take 7)).bind fun t378 => (if bt370.1 = t378 then (if bt370.2 = 0 then (if 3 ≤ (bt344.1.length : Int) then ((journal_Extends.f bt344.1 (bt344.1.take 3)).bind fun t383 => (if t383 = true then ((journal_Count.f k bt344.1).bind fun t384 => (some (t384 == 1))) else (none))) else (none)) else (none)) else (none)))) else (none)) else (none)) else (none)) else (none)) else (none)) else (none)) else (none)) else (none)))) else (none))) else (none))) else (none)) else (none)) else (none))) = some r := h
 clear h
 replace H := Option.bind_eq_some_iff.mp H
 obtain ⟨⟨t344, t347⟩, A10, H⟩ := H
 try dsimp only at H
 have A1 := am A10
 clear A10
 replace H := it_ H
 obtain ⟨c2, H⟩ := H
 have c2b0 : (t347 == 0) = true := beq_iff_eq.mpr c2
 have c2b1 : (t347 != 0) = false := bne_eq_false_iff_eq.mpr c2
 clear c2
 replace H := it_ H
 obtain ⟨c3, H⟩ := H
 have c3b0 : ((t344.length : Int) == 15) = true := beq_iff_eq.mpr c3
 have c3b1 : ((t344.length : Int) != 15) = false := bne_eq_false_iff_eq.mpr c3
 clear c3
 replace H := it_ H
 obtain ⟨c4, H⟩ := H
 have c4b0 := eq_true c4
 have c4b1 : decide (7 ≤ (t344.length : Int)) = true := decide_eq_true c4
 clear c4
 obtain ⟨y348, hy348⟩ : ∃ y_ : List Int, y_ = (t344.take 7) := ⟨_, rfl⟩
 replace H : ((examboardlaw49_equal.f k y348 (([0, 0, 0, 3, 1, 1, 10] : List Int))).bind fun t355 => (if t355 = true then ((journal_Read.f k t344).bind fun bt356 => (if 14 ≤ (t344.length : Int) then ((journal_Read.f k (t344.take 14)).bind fun bt365 => ((journal_Last.f k t344).bind fun bt370 => (if (bt356.1.length : Int) = 1 then (if 0 < (bt356.1.length : Int) then (if ((rd_T43 bt356.1 0).f2) = 5 then (if bt356.2.1 = 15 then (if bt356.2.2 = 0 then (if (bt365.1.length : Int) = 0 then (if bt365.2.1 = 0 then (if bt365.2.2 = 4 then ((digest_Of.f k ([] : List Int)).bind fun t373 => ((digest_Chain.f k t373 (t344.take 7)).bind fun t378 => (if bt370.1 = t378 then (if bt370.2 = 0 then (if 3 ≤ (t344.length : Int) then ((journal_Extends.f t344 (t344.take 3)).bind fun t383 => (if t383 = true then ((journal_Count.f k t344).bind fun t384 => (some (t384 == 1))) else (none))) else (none)) else (none)) else (none)))) else (none)) else (none)) else (none)) else (none)) else (none)) else (none)) else (none)) else (none)))) else (none))) else (none))) = some r := by first | (rw [hy348]; with_reducible exact H) | (have H2_ := (Option.bind_some _ _).symm.trans H; rw [hy348]; with_reducible exact H2_) | (have H2_ := (Option.bind_some _ _).symm.trans H; with_reducible exact H2_) | with_reducible exact H | (rw [hy348]; exact H) | exact H
 have Ny348 := am hy348
 clear hy348
 obtain ⟨y352, hy352⟩ : ∃ y_ : List Int, y_ = (([0, 0, 0, 3, 1, 1, 10] : List Int)) := ⟨_, rfl⟩
 replace H : ((examboardlaw49_equal.f k y348 y352).bind fun t355 => (if t355 = true then ((journal_Read.f k t344).bind fun bt356 => (if 14 ≤ (t344.length : Int) then ((journal_Read.f k (t344.take 14)).bind fun bt365 => ((journal_Last.f k t344).bind fun bt370 => (if (bt356.1.length : Int) = 1 then (if 0 < (bt356.1.length : Int) then (if ((rd_T43 bt356.1 0).f2) = 5 then (if bt356.2.1 = 15 then (if bt356.2.2 = 0 then (if (bt365.1.length : Int) = 0 then (if bt365.2.1 = 0 then (if bt365.2.2 = 4 then ((digest_Of.f k ([] : List Int)).bind fun t373 => ((digest_Chain.f k t373 (t344.take 7)).bind fun t378 => (if bt370.1 = t378 then (if bt370.2 = 0 then (if 3 ≤ (t344.length : Int) then ((journal_Extends.f t344 (t344.take 3)).bind fun t383 => (if t383 = true then ((journal_Count.f k t344).bind fun t384 => (some (t384 == 1))) else (none))) else (none)) else (none)) else (none)))) else (none)) else (none)) else (none)) else (none)) else (none)) else (none)) else (none)) else (none)))) else (none))) else (none))) = some r := by first | (rw [hy352]; with_reducible exact H) | (have H2_ := (Option.bind_some _ _).symm.trans H; rw [hy352]; with_reducible exact H2_) | (have H2_ := (Option.bind_some _ _).symm.trans H; with_reducible exact H2_) | with_reducible exact H | (rw [hy352]; exact H) | exact H
 have Ny352 := am hy352
 clear hy352
 replace H := Option.bind_eq_some_iff.mp H
 obtain ⟨t355, A50, H⟩ := H
 try dsimp only at H
 have A5 := am A50
 clear A50
 by_cases c6 : t355 = true
 ·
  subst c6
  have H1 := H
  rw [if_pos rfl] at H1
  clear H
  have H := H1
  clear H1
  replace H := Option.bind_eq_some_iff.mp H
  obtain ⟨⟨t356, t357, t358⟩, A70, H⟩ := H
  try dsimp only at H
  have A7 := am A70
  clear A70
  replace H := it_ H
  obtain ⟨c8, H⟩ := H
  have c8b0 := eq_true c8
  have c8b1 : decide (14 ≤ (t344.length : Int)) = true := decide_eq_true c8
  clear c8
  obtain ⟨y361, hy361⟩ : ∃ y_ : List Int, y_ = (t344.take 14) := ⟨_, rfl⟩
  replace H : ((journal_Read.f k y361).bind fun bt365 => ((journal_Last.f k t344).bind fun bt370 => (if (t356.length : Int) = 1 then (if 0 < (t356.length : Int) then (if ((rd_T43 t356 0).f2) = 5 then (if t357 = 15 then (if t358 = 0 then (if (bt365.1.length : Int) = 0 then (if bt365.2.1 = 0 then (if bt365.2.2 = 4 then ((digest_Of.f k ([] : List Int)).bind fun t373 => ((digest_Chain.f k t373 (t344.take 7)).bind fun t378 => (if bt370.1 = t378 then (if bt370.2 = 0 then (if 3 ≤ (t344.length : Int) then ((journal_Extends.f t344 (t344.take 3)).bind fun t383 => (if t383 = true then ((journal_Count.f k t344).bind fun t384 => (some (t384 == 1))) else (none))) else (none)) else (none)) else (none)))) else (none)) else (none)) else (none)) else (none)) else (none)) else (none)) else (none)) else (none)))) = some r := by first | (rw [hy361]; with_reducible exact H) | (have H2_ := (Option.bind_some _ _).symm.trans H; rw [hy361]; with_reducible exact H2_) | (have H2_ := (Option.bind_some _ _).symm.trans H; with_reducible exact H2_) | with_reducible exact H | (rw [hy361]; exact H) | exact H
  have Ny361 := am hy361
  clear hy361
  replace H := Option.bind_eq_some_iff.mp H
  obtain ⟨⟨t365, t366, t367⟩, A90, H⟩ := H
  try dsimp only at H
  have A9 := am A90
  clear A90
  replace H := Option.bind_eq_some_iff.mp H
  obtain ⟨⟨t370, t371⟩, A100, H⟩ := H
  try dsimp only at H
  have A10 := am A100
  clear A100
  replace H := it_ H
  obtain ⟨c11, H⟩ := H
  have c11b0 : ((t356.length : Int) == 1) = true := beq_iff_eq.mpr c11
  have c11b1 : ((t356.length : Int) != 1) = false := bne_eq_false_iff_eq.mpr c11
  clear c11
  replace H := it_ H
  obtain ⟨c12, H⟩ := H
  have c12b0 : decide (0 < (t356.length : Int)) = true := decide_eq_true c12
  have c12b1 : decide (0 < t356.length) = true := decide_eq_true (by omega)
  clear c12
  replace H := it_ H
  obtain ⟨c13, H⟩ := H
  have c13b0 : (((rd_T43 t356 0).f2) == 5) = true := beq_iff_eq.mpr c13
  have c13b1 : (((rd_T43 t356 0).f2) != 5) = false := bne_eq_false_iff_eq.mpr c13
  clear c13
  replace H := it_ H
  obtain ⟨c14, H⟩ := H
  have c14b0 : (t357 == 15) = true := beq_iff_eq.mpr c14
  have c14b1 : (t357 != 15) = false := bne_eq_false_iff_eq.mpr c14
  clear c14
  replace H := it_ H
  obtain ⟨c15, H⟩ := H
  have c15b0 : (t358 == 0) = true := beq_iff_eq.mpr c15
  have c15b1 : (t358 != 0) = false := bne_eq_false_iff_eq.mpr c15
  clear c15
  replace H := it_ H
  obtain ⟨c16, H⟩ := H
  have c16b0 : ((t365.length : Int) == 0) = true := beq_iff_eq.mpr c16
  have c16b1 : ((t365.length : Int) != 0) = false := bne_eq_false_iff_eq.mpr c16
  clear c16
  replace H := it_ H
  obtain ⟨c17, H⟩ := H
  have c17b0 : (t366 == 0) = true := beq_iff_eq.mpr c17
  have c17b1 : (t366 != 0) = false := bne_eq_false_iff_eq.mpr c17
  clear c17
  replace H := it_ H
  obtain ⟨c18, H⟩ := H
  have c18b0 : (t367 == 4) = true := beq_iff_eq.mpr c18
  have c18b1 : (t367 != 4) = false := bne_eq_false_iff_eq.mpr c18
  clear c18
  replace H := Option.bind_eq_some_iff.mp H
  obtain ⟨t373, A190, H⟩ := H
  try dsimp only at H
  have A19 := am A190
  clear A190
  have c20b0 := eq_true (of_decide_eq_true az : 7 ≤ (t344.length : Int))
  obtain ⟨y374, hy374⟩ : ∃ y_ : List Int, y_ = (t344.take 7) := ⟨_, rfl⟩
  replace H : ((digest_Chain.f k t373 y374).bind fun t378 => (if t370 = t378 then (if t371 = 0 then (if 3 ≤ (t344.length : Int) then ((journal_Extends.f t344 (t344.take 3)).bind fun t383 => (if t383 = true then ((journal_Count.f k t344).bind fun t384 => (some (t384 == 1))) else (none))) else (none)) else (none)) else (none))) = some r := by first | (rw [hy374]; with_reducible exact H) | (have H2_ := (Option.bind_some _ _).symm.trans H; rw [hy374]; with_reducible exact H2_) | (have H2_ := (Option.bind_some _ _).symm.trans H; with_reducible exact H2_) | with_reducible exact H | (rw [hy374]; exact H) | exact H
  have Ny374 := am hy374
  clear hy374
  replace H := Option.bind_eq_some_iff.mp H
  obtain ⟨t378, A210, H⟩ := H
  try dsimp only at H
  have A21 := am A210
  clear A210
  replace H := it_ H
  obtain ⟨c22, H⟩ := H
  have c22b0 : (t370 == t378) = true := beq_iff_eq.mpr c22
  have c22b1 : (t370 != t378) = false := bne_eq_false_iff_eq.mpr c22
  clear c22
  replace H := it_ H
  obtain ⟨c23, H⟩ := H
  have c23b0 : (t371 == 0) = true := beq_iff_eq.mpr c23
  have c23b1 : (t371 != 0) = false := bne_eq_false_iff_eq.mpr c23
  clear c23
  replace H := it_ H
  obtain ⟨c24, H⟩ := H
  have c24b0 := eq_true c24
  have c24b1 : decide (3 ≤ (t344.length : Int)) = true := decide_eq_true c24
  clear c24
  obtain ⟨y379, hy379⟩ : ∃ y_ : List Int, y_ = (t344.take 3) := ⟨_, rfl⟩
  replace H : ((journal_Extends.f t344 y379).bind fun t383 => (if t383 = true then ((journal_Count.f k t344).bind fun t384 => (some (t384 == 1))) else (none))) = some r := by first | (rw [hy379]; with_reducible exact H) | (have H2_ := (Option.bind_some _ _).symm.trans H; rw [hy379]; with_reducible exact H2_) | (have H2_ := (Option.bind_some _ _).symm.trans H; with_reducible exact H2_) | with_reducible exact H | (rw [hy379]; exact H) | exact H
  have Ny379 := am hy379
  clear hy379
  replace H := Option.bind_eq_some_iff.mp H
  obtain ⟨t383, A250, H⟩ := H
  try dsimp only at H
  have A25 := am A250
  clear A250
  by_cases c26 : t383 = true
  ·
   subst c26
   have H1 := H
   rw [if_pos rfl] at H1
   clear H
   have H := H1
   clear H1
   replace H := Option.bind_eq_some_iff.mp H
   obtain ⟨t384, A270, H⟩ := H
   try dsimp only at H
   have A27 := am A270
   clear A270
   obtain rfl := Option.some.inj H
   go_enter Tryd.func16, Tryd.ntmps16
   try go_wp2_with (first | ((with_reducible refine gate_callee (f := 19) rfl ?_); refine goesL_ (some 13) rfl rfl Tryd.func19 (by kernel_rfl) rfl #[.slice none 0 0, .agg #[.int .i64 1, .int .i64 1, .int .i64 5, .string (⟨#[]⟩ : ByteArray), .slice none 0 0]] rfl lz ?_; (refine (journal_Append.calls k _ _ ([] : List Int) 1 1 5 (⟨#[]⟩ : ByteArray) _ _ ([] : List (S43)) t344 t347 _ ?sideG ?side1 ?side2 ?side3 ?side4 A1.out).mono ?_); (case sideG => exact gle HG_.out (hz HB.out)); (case side1 => exact Kd.C_nil _ _); (case side2 => exact Nat.le_refl _); (case side3 => exact Kd.C_nil _ _); (case side4 => exact Nat.le_refl _); rintro e w28 ⟨v345, rfl, ho0, hb⟩; refine ⟨_, rfl, ?_⟩; have HO346 := am (Kd.R_lower ho0 (below_size (hz HB.out))); replace HB := am (below_step (hz HB.out) hb); obtain ⟨Ao29, co29, eo29⟩ := Kd.R_slice HO346.out; subst eo29; have q30 : (7 : Int) ≤ ((t344.length : Int) : Int) := of_decide_eq_true az; obtain ⟨i030, hi030, _, hsz30, _⟩ := info_parts info5; have hroom30 : t344.length ≤ co29 := (Kd.R_reads' HO346.out).2.1; have hC30 : Kd.C (Kd.int .u8) _ Ao29 t344.length t344 := (Kd.R_reads' HO346.out).2.2; have hcut30 := cut_to (P := Tryd.prog) 24 5 .i64 Tryd.underlying24 hi030 Ao29 t344.length co29 7 (by omega) q30 hroom30; have hr30 := Kd.C_take (m := 7) hC30 (by omega); have hy30 : y348.length = (7 : Int).toNat := (by rw [Ny348.out, List.length_take]; omega); rw [← Ny348.out] at hr30; rw [← hy30] at hcut30; have HR351 := am hr30; have HC351 := am (show y348.length ≤ co29 from by omega); clear hr30 hC30 hroom30 hi030 hsz30; have KY30 := am hy30; clear hy30; have KL30 := am (show 7 ≤ t344.length from by omega); replace q30 := eq_true q30) | ((with_reducible refine gate_dst (N := 26) rfl ?_); (try (refine gate_guard (by rfl) ?_; dsimp only)); refine Kd.R_lit (Kd.int .u8) _ 5 ?hg (N := 26) ?hd (xs := ([0, 0, 0, 3, 1, 1, 10] : List Int)) (inner := [.int .u8 0, .int .u8 0, .int .u8 0, .int .u8 3, .int .u8 1, .int .u8 1, .int .u8 10]) (ok := fun _ => True) (okp := fun _ => True) ?hr ?hp (fun _ hk => hk) trivial (Below.refl _ _) (Nat.le_refl _) (by simp) ?_; (case hd => rfl); (case hg => rfl); (case hr => exact gz); (case hp => exact (Reps.one (show Kd.M (Kd.int .u8) _ _ _ 0 [.int .u8 0] from rfl) (Reps.one (show Kd.M (Kd.int .u8) _ _ _ 0 [.int .u8 0] from rfl) (Reps.one (show Kd.M (Kd.int .u8) _ _ _ 0 [.int .u8 0] from rfl) (Reps.one (show Kd.M (Kd.int .u8) _ _ _ 3 [.int .u8 3] from rfl) (Reps.one (show Kd.M (Kd.int .u8) _ _ _ 1 [.int .u8 1] from rfl) (Reps.one (show Kd.M (Kd.int .u8) _ _ _ 1 [.int .u8 1] from rfl) (Reps.one (show Kd.M (Kd.int .u8) _ _ _ 10 [.int .u8 10] from rfl) (Reps.none _ _))))))))); intro v353 w31 ho32 hb hg_ hnew_; clear hg_ hnew_; (first | rw [← Ny352.out] at ho32 | (simp only [Int.reduceToNat] at ho32; rw [← Ny352.out] at ho32)); have HO354 := am (Kd.R_lower (Kd.R_new' ho32 (Kd.R_lt (rz HO346.out))) (below_size (hz HB.out))); replace HO346 := am (Kd.R_elder' (rz HO346.out) (Kd.R_base ho32) hb); replace HR351 := am (Kd.C_below (cz HR351.out) hb); replace HB := am (below_step (hz HB.out) hb); clear hb ho32; obtain ⟨Ao33, co33, eo33⟩ := Kd.R_slice HO354.out; subst eo33) | (go_at_call 13; (with_reducible refine (examboardlaw49_equal.calls k _ _ y348 _ _ y352 true _ ?side1 ?side2 ?side3 ?side4 A5.out).mono ?_); (case side1 => exact cz (cz HR351.out)); (case side2 => exact HC351.out); (case side3 => exact cz (Kd.R_reads' HO354.out).2.2); (case side4 => exact (Kd.R_reads' HO354.out).2.1); rintro e w' ⟨rfl, ⟨nd, rfl⟩⟩) | ((with_reducible refine gate_callee (f := 11) rfl ?_); refine goesL_ (some 32) rfl rfl Tryd.func11 (by kernel_rfl) rfl #[.slice Ao29 t344.length co29] rfl lz ?_; (with_reducible refine (journal_Read.calls k _ _ t344 t356 t357 t358 _ ?sideG ?side1 ?side2 A7.out).mono ?_); (case sideG => exact gle HG_.out (hz HB.out)); (case side1 => exact cz (Kd.R_reads' HO346.out).2.2); (case side2 => exact (Kd.R_reads' HO346.out).2.1); rintro e w34 ⟨v359, rfl, ho0, hb⟩; refine ⟨_, rfl, ?_⟩; replace HO346 := am (Kd.R_below (rz HO346.out) hb); replace HO354 := am (Kd.R_below (rz HO354.out) hb); have HO360 := am (Kd.R_lower ho0 (below_size (hz HB.out))); replace HR351 := am (Kd.C_below (cz HR351.out) hb); replace HB := am (below_step (hz HB.out) hb); have q35 : (14 : Int) ≤ ((t344.length : Int) : Int) := of_decide_eq_true az; obtain ⟨i035, hi035, _, hsz35, _⟩ := info_parts info5; have hroom35 : t344.length ≤ co29 := (Kd.R_reads' HO346.out).2.1; have hC35 : Kd.C (Kd.int .u8) _ Ao29 t344.length t344 := (Kd.R_reads' HO346.out).2.2; have hcut35 := cut_to (P := Tryd.prog) 24 5 .i64 Tryd.underlying24 hi035 Ao29 t344.length co29 14 (by omega) q35 hroom35; have hr35 := Kd.C_take (m := 14) hC35 (by omega); have hy35 : y361.length = (14 : Int).toNat := (by rw [Ny361.out, List.length_take]; omega); rw [← Ny361.out] at hr35; rw [← hy35] at hcut35; have HR364 := am hr35; have HC364 := am (show y361.length ≤ co29 from by omega); clear hr35 hC35 hroom35 hi035 hsz35; have KY35 := am hy35; clear hy35; have KL35 := am (show 14 ≤ t344.length from by omega); replace q35 := eq_true q35) | ((with_reducible refine gate_callee (f := 11) rfl ?_); refine goesL_ (some 39) rfl rfl Tryd.func11 (by kernel_rfl) rfl #[.slice Ao29 y361.length co29] rfl lz ?_; (with_reducible refine (journal_Read.calls k _ _ y361 t365 t366 t367 _ ?sideG ?side1 ?side2 A9.out).mono ?_); (case sideG => exact gle HG_.out (hz HB.out)); (case side1 => exact cz (cz HR364.out)); (case side2 => exact HC364.out); rintro e w36 ⟨v368, rfl, ho0, hb⟩; refine ⟨_, rfl, ?_⟩; replace HO346 := am (Kd.R_below (rz HO346.out) hb); replace HO354 := am (Kd.R_below (rz HO354.out) hb); have HO369 := am (Kd.R_lower (Kd.R_new' ho0 (Kd.R_lt (rz HO360.out))) (below_size (hz HB.out))); replace HO360 := am (Kd.R_elder' (rz HO360.out) (Kd.R_base ho0) hb); replace HR351 := am (Kd.C_below (cz HR351.out) hb); replace HR364 := am (Kd.C_below (cz HR364.out) hb); replace HB := am (below_step (hz HB.out) hb)) | ((with_reducible refine gate_callee (f := 18) rfl ?_); refine goesL_ (some 45) rfl rfl Tryd.func18 (by kernel_rfl) rfl #[.slice Ao29 t344.length co29] rfl lz ?_; (with_reducible refine (journal_Last.calls k _ _ t344 t370 t371 _ ?sideG ?side1 ?side2 A10.out).mono ?_); (case sideG => exact gle HG_.out (hz HB.out)); (case side1 => exact cz (Kd.R_reads' HO346.out).2.2); (case side2 => exact (Kd.R_reads' HO346.out).2.1); rintro e w37 ⟨rfl, hb⟩; refine ⟨_, rfl, ?_⟩; replace HO346 := am (Kd.R_below (rz HO346.out) hb); replace HO354 := am (Kd.R_below (rz HO354.out) hb); replace HO360 := am (Kd.R_below (rz HO360.out) hb); replace HO369 := am (Kd.R_below (rz HO369.out) hb); replace HR351 := am (Kd.C_below (cz HR351.out) hb); replace HR364 := am (Kd.C_below (cz HR364.out) hb); replace HB := am (below_step (hz HB.out) hb)))
   replace HO346 := am (Kd.R_drew HO346.out)
   replace HO354 := am (Kd.R_drew HO354.out)
   replace HO360 := am (Kd.R_drew HO360.out)
   replace HO369 := am (Kd.R_drew HO369.out)
   replace HR351 := am (Kd.C_drew HR351.out)
   replace HR364 := am (Kd.C_drew HR364.out)
   replace HB := am (below_drew1 HB.out)
   obtain ⟨Ao39, co39, eo39⟩ := Kd.R_slice HO360.out
   (first | subst eo39 | (injection eo39 with f1_ f2_ f3_; have f4_ := f1_.symm; have f5_ := f3_.symm; clear f1_ f2_ f3_; subst f4_; subst f5_))
   have p372 : 0 ≤ (0 : Int) := (by omega)
   have q372 : 0 < (t356.length : Int) := of_decide_eq_true az
   obtain ⟨ad372, A372_4, c372_4, e372, hx372_0, hx372_1, hx372_2, hx372_3, hx372_4, hl372_4, hi372_4⟩ := at_T43 (Kd.R_reads' HO360.out).2.2 0 p372 q372
   cases e372
   obtain ⟨ce372, hce372, hMe372, hcc372⟩ := Kd.R_get HO360.out z43 0 p372 (by first | exact q372 | exact of_decide_eq_true az | (have e_ := (Kd.R_reads' HO360.out).1; omega))
   obtain ⟨ve372_4, rfl, ge372_4⟩ := k43_openM hMe372
   have hv372_4 := hcc372 4 _ rfl
   rw [add_field _ _ 4 (by omega)] at hv372_4
   replace hv372_4 := Option.some.inj (hv372_4.symm.trans hx372_4)
   rw [hv372_4] at ge372_4
   have HL372_4 := am (show Kd.R k43 43 _ _ _ _ ((rd_T43 t356 0).f4) from ge372_4)
   clear hv372_4 ge372_4
   clear hcc372 hce372
   have qi372 : (0 < t356.length) = True := eq_true (by omega)
   (try rw [show ((0 : Int)).toNat = 0 from rfl] at hx372_0)
   (try rw [show 0 * 5 = 0 from rfl] at hx372_0)
   (try rw [Addr.add_zero'] at hx372_0)
   (try rw [show ((0 : Int)).toNat = 0 from rfl] at hx372_1)
   (try rw [show 0 * 5 = 0 from rfl] at hx372_1)
   (try rw [Addr.add_zero'] at hx372_1)
   (try rw [show ((0 : Int)).toNat = 0 from rfl] at hx372_2)
   (try rw [show 0 * 5 = 0 from rfl] at hx372_2)
   (try rw [Addr.add_zero'] at hx372_2)
   (try rw [show ((0 : Int)).toNat = 0 from rfl] at hx372_3)
   (try rw [show 0 * 5 = 0 from rfl] at hx372_3)
   (try rw [Addr.add_zero'] at hx372_3)
   (try rw [show ((0 : Int)).toNat = 0 from rfl] at hx372_4)
   (try rw [show 0 * 5 = 0 from rfl] at hx372_4)
   (try rw [Addr.add_zero'] at hx372_4)
   have HC372_4 := am hl372_4
   clear hi372_4 hl372_4
   replace p372 := eq_true p372
   replace q372 := eq_true q372
   obtain ⟨Ao40, co40, eo40⟩ := Kd.R_slice HO369.out
   (first | subst eo40 | (injection eo40 with f1_ f2_ f3_; have f4_ := f1_.symm; have f5_ := f3_.symm; clear f1_ f2_ f3_; subst f4_; subst f5_))
   have q41 : (7 : Int) ≤ ((t344.length : Int) : Int) := of_decide_eq_true az
   obtain ⟨i041, hi041, _, hsz41, _⟩ := info_parts info5
   have hroom41 : t344.length ≤ co29 := (Kd.R_reads' HO346.out).2.1
   have hC41 : Kd.C (Kd.int .u8) _ Ao29 t344.length t344 := (Kd.R_reads' HO346.out).2.2
   clear hcut30
   have hcut41 := cut_to (P := Tryd.prog) 24 5 .i64 Tryd.underlying24 hi041 Ao29 t344.length co29 7 (by omega) q41 hroom41
   have hr41 := Kd.C_take (m := 7) hC41 (by omega)
   have hy41 : y374.length = (7 : Int).toNat := (by rw [Ny374.out, List.length_take]; omega)
   rw [← Ny374.out] at hr41
   rw [← hy41] at hcut41
   have HR377 := am hr41
   have HC377 := am (show y374.length ≤ co29 from by omega)
   clear hr41 hC41 hroom41 hi041 hsz41
   have KY41 := am hy41
   clear hy41
   have KL41 := am (show 7 ≤ t344.length from by omega)
   replace q41 := eq_true q41
   refine start_ (n := 55) (S := fun w' => w'.cell? ad372 = some (.int .i64 ((rd_T43 t356 0).f0)) ∧ w'.cell? ⟨ad372.block, ad372.off + 1, none⟩ = some (.int .i64 ((rd_T43 t356 0).f1)) ∧ w'.cell? ⟨ad372.block, ad372.off + 2, none⟩ = some (.int .i64 ((rd_T43 t356 0).f2)) ∧ w'.cell? ⟨ad372.block, ad372.off + 3, none⟩ = some (.string ((rd_T43 t356 0).f3)) ∧ w'.cell? ⟨ad372.block, ad372.off + 4, none⟩ = some (.slice A372_4 ((rd_T43 t356 0).f4).length c372_4)) (ds := []) #[false, false, false, false, false, false, false, false, false, false, false, false, false, false, false, false, false, false, false, false, false, false, false, false, false, false, false, false, false, false, false, false, false, false, false, false, false, false, false, false, false, false, false, false, false, false, false, false, false, false, false, false, false, false, false] (by kernel_rfl) rfl rfl ⟨hx372_0, hx372_1, hx372_2, hx372_3, hx372_4⟩ (fun hHeld => ?_); refine with_tabW examboardlaw49_awake.tab7 examboardlaw49_awake.bits7 (fun HT_ HW_ => ?_)
   generalize w37.drew = w38 at HO346 HO354 HO360 HO369 HR351 HR364 HB HL372_4 HR377 hx372_0 hx372_1 hx372_2 hx372_3 hx372_4 hHeld ⊢
   refine pz 0 48 HT_.out ?_
   refine pz 1 49 HT_.out ?_
   refine pz 2 50 HT_.out ?_
   refine pz 3 51 HT_.out ?_
   refine pz 4 52 HT_.out ?_
   refine pz 5 53 HT_.out ?_
   refine pz 6 54 HT_.out ?_
   refine take_ (i := 7) (N := some 55) (v := ?_) (a' := ?_) #[true, true, true, true, true, true, true, true, false, false, false, false, false, false, false, false, false, false, false, false, false, false, false, false, false, false, false, false, false, false, false, false, false, false, false, false, false, false, false, false, false, false, false, false, false, false, false, false, false, false, false, false, false, false, false] rfl rfl (take_ofW HT_.out HW_.out (by kernel_rfl)) (fun _ _ _ h => h) (Or.inl ⟨by rfl, ?_⟩) hHeld ?_ ?_
   rotate_left
   ·
    rintro w' ⟨s0, s1, s2, s3, s4⟩
    go_simp
    with_reducible rfl
   rotate_left
   ·
    simp only [Act.put, List.setIfInBounds_toArray, List.set_cons_zero, List.set_cons_succ, i64_w, i32_w]
    rfl
   refine pz 8 56 HT_.out ?_
   refine pz 9 57 HT_.out ?_
   refine pz 10 58 HT_.out ?_
   refine pz 11 59 HT_.out ?_
   refine pz 12 60 HT_.out ?_
   refine pz 13 61 HT_.out ?_
   refine pz 14 62 HT_.out ?_
   refine pz 15 63 HT_.out ?_
   refine pz 16 64 HT_.out ?_
   refine pz 17 65 HT_.out ?_
   refine pz 18 66 HT_.out ?_
   refine pz 19 67 HT_.out ?_
   refine pz 20 68 HT_.out ?_
   refine pz 21 69 HT_.out ?_
   refine pz 22 70 HT_.out ?_
   refine pz 23 71 HT_.out ?_
   refine pz 24 72 HT_.out ?_
   refine pz 25 73 HT_.out ?_
   refine pz 26 74 HT_.out ?_
   refine pz 27 75 HT_.out ?_
   refine pz 28 76 HT_.out ?_
   refine pz 29 77 HT_.out ?_
   refine pz 30 78 HT_.out ?_
   refine pz 31 79 HT_.out ?_
   refine pz 32 80 HT_.out ?_
   refine pz 34 82 HT_.out ?_
   refine pz 35 83 HT_.out ?_
   refine oz 33 81 HT_.out (fun K hK => ?_)
   refine goes_ Tryd.func25 (by kernel_rfl) rfl #[.slice none 0 0] (by rfl) rfl rfl lz ?_
   refine (digest_Of.calls k _ _ ([] : List Int) t373 _ ?side1 ?side2 A19.out).mono ?_
   (case side1 => exact Kd.C_nil _ _)
   (case side2 => exact Nat.le_refl _)
   rintro e w' ⟨rfl, ⟨nd, rfl⟩⟩
   refine ⟨_, rfl, ?_⟩
   refine hK.out _ _ ⟨hHeld.1, hHeld.2.1, hHeld.2.2.1, hHeld.2.2.2.1, hHeld.2.2.2.2⟩ (fun hHeld => ?_)
   clear hK K
   refine norm_ (a' := ?_) ?_ ?_
   rotate_left
   ·
    show Act.put _ (some 81) _ = _
    simp only [Act.put, List.setIfInBounds_toArray, List.set_cons_zero, List.set_cons_succ, i64_w, i32_w]
    rfl
   refine oz 36 84 HT_.out (fun K hK => ?_)
   refine goes_ Tryd.func22 (by kernel_rfl) rfl #[.int .u64 t373, .slice Ao29 y374.length co29] (by rfl) rfl rfl lz ?_
   with_reducible refine (digest_Chain.calls k t373 _ _ y374 t378 _ ?side1 ?side2 A21.out).mono ?_
   (case side1 => exact cz (cz HR377.out))
   (case side2 => exact HC377.out)
   rintro e w' ⟨rfl, ⟨nd, rfl⟩⟩
   refine ⟨_, rfl, ?_⟩
   have q42 : (3 : Int) ≤ ((t344.length : Int) : Int) := of_decide_eq_true az
   obtain ⟨i042, hi042, _, hsz42, _⟩ := info_parts info5
   have hroom42 : t344.length ≤ co29 := (Kd.R_reads' HO346.out).2.1
   have hC42 : Kd.C (Kd.int .u8) _ Ao29 t344.length t344 := (Kd.R_reads' HO346.out).2.2
   have hcut42 := cut_to (P := Tryd.prog) 24 5 .i64 Tryd.underlying24 hi042 Ao29 t344.length co29 3 (by omega) q42 hroom42
   have hr42 := Kd.C_take (m := 3) hC42 (by omega)
   have hy42 : y379.length = (3 : Int).toNat := (by rw [Ny379.out, List.length_take]; omega)
   rw [← Ny379.out] at hr42
   rw [← hy42] at hcut42
   have HR382 := am hr42
   have HC382 := am (show y379.length ≤ co29 from by omega)
   clear hr42 hC42 hroom42 hi042 hsz42
   have KY42 := am hy42
   clear hy42
   have KL42 := am (show 3 ≤ t344.length from by omega)
   replace q42 := eq_true q42
   refine hK.out _ _ ⟨hHeld.1, hHeld.2.1, hHeld.2.2.1, hHeld.2.2.2.1, hHeld.2.2.2.2⟩ (fun hHeld => ?_)
   clear hK K
   refine norm_ (a' := ?_) ?_ ?_
   rotate_left
   ·
    show Act.put _ (some 84) _ = _
    simp only [Act.put, List.setIfInBounds_toArray, List.set_cons_zero, List.set_cons_succ, i64_w, i32_w]
    rfl
   refine pz 37 85 HT_.out ?_
   refine pz 38 86 HT_.out ?_
   refine pz 39 87 HT_.out ?_
   refine pz 40 88 HT_.out ?_
   refine pz 41 89 HT_.out ?_
   refine pz 42 90 HT_.out ?_
   refine pz 43 91 HT_.out ?_
   refine pz 44 92 HT_.out ?_
   refine pz 45 93 HT_.out ?_
   refine pz 46 94 HT_.out ?_
   refine oz 47 95 HT_.out (fun K hK => ?_)
   refine goes_ Tryd.func17 (by kernel_rfl) rfl #[.slice Ao29 t344.length co29, .slice Ao29 y379.length co29] (by rfl) rfl rfl lz ?_
   with_reducible refine (journal_Extends.calls _ _ t344 _ _ y379 true _ ?side1 ?side2 ?side3 ?side4 A25.out).mono ?_
   (case side1 => exact cz (Kd.R_reads' HO346.out).2.2)
   (case side2 => exact (Kd.R_reads' HO346.out).2.1)
   (case side3 => exact cz (cz HR382.out))
   (case side4 => exact HC382.out)
   rintro e w' ⟨rfl, ⟨nd, rfl⟩⟩
   refine ⟨_, rfl, ?_⟩
   refine hK.out _ _ ⟨hHeld.1, hHeld.2.1, hHeld.2.2.1, hHeld.2.2.2.1, hHeld.2.2.2.2⟩ (fun hHeld => ?_)
   clear hK K
   refine norm_ (a' := ?_) ?_ ?_
   rotate_left
   ·
    show Act.put _ (some 95) _ = _
    simp only [Act.put, List.setIfInBounds_toArray, List.set_cons_zero, List.set_cons_succ, i64_w, i32_w]
    rfl
   refine pz 48 96 HT_.out ?_
   refine pz 49 97 HT_.out ?_
   refine pz 50 98 HT_.out ?_
   refine oz 51 99 HT_.out (fun K hK => ?_)
   refine goes_ Tryd.func15 (by kernel_rfl) rfl #[.slice Ao29 t344.length co29] (by rfl) rfl rfl lz ?_
   with_reducible refine (journal_Count.calls k _ _ t344 t384 _ ?side1 ?side2 A27.out).mono ?_
   (case side1 => exact cz (Kd.R_reads' HO346.out).2.2)
   (case side2 => exact (Kd.R_reads' HO346.out).2.1)
   rintro e w43 ⟨rfl, hb⟩
   have HS0_ := (hb.cell (World.block_lt_of_cell? _ _ (hHeld.1))).trans (hHeld.1)
   have HS1_ := (hb.cell (World.block_lt_of_cell? _ _ (hHeld.2.1))).trans (hHeld.2.1)
   have HS2_ := (hb.cell (World.block_lt_of_cell? _ _ (hHeld.2.2.1))).trans (hHeld.2.2.1)
   have HS3_ := (hb.cell (World.block_lt_of_cell? _ _ (hHeld.2.2.2.1))).trans (hHeld.2.2.2.1)
   have HS4_ := (hb.cell (World.block_lt_of_cell? _ _ (hHeld.2.2.2.2))).trans (hHeld.2.2.2.2)
   refine ⟨_, rfl, ?_⟩
   replace HO346 := am (Kd.R_below (rz HO346.out) hb)
   replace HO354 := am (Kd.R_below (rz HO354.out) hb)
   replace HO360 := am (Kd.R_below (rz HO360.out) hb)
   replace HO369 := am (Kd.R_below (rz HO369.out) hb)
   replace HL372_4 := am (Kd.R_below (rz HL372_4.out) hb)
   replace HR351 := am (Kd.C_below (cz HR351.out) hb)
   replace HR364 := am (Kd.C_below (cz HR364.out) hb)
   replace HR377 := am (Kd.C_below (cz HR377.out) hb)
   replace HR382 := am (Kd.C_below (cz HR382.out) hb)
   replace HB := am (below_step (hz HB.out) hb)
   (try clear hb)
   (try clear hb2)
   (try clear hk)
   (try clear hi)
   refine hK.out _ _ ⟨HS0_, HS1_, HS2_, HS3_, HS4_⟩ (fun hHeld => ?_)
   clear hK K
   refine norm_ (a' := ?_) ?_ ?_
   rotate_left
   ·
    show Act.put _ (some 99) _ = _
    simp only [Act.put, List.setIfInBounds_toArray, List.set_cons_zero, List.set_cons_succ, i64_w, i32_w]
    rfl
   refine pz 52 100 HT_.out ?_
   refine pz 53 101 HT_.out ?_
   refine pz 54 0 HT_.out ?_
   refine done_ (done_of HT_.out (by kernel_rfl)) ?_
   try go_wp2
   go_ret
   exact ⟨ez, hz HB.out⟩
  ·
   replace c26 := Bool.eq_false_iff.mpr c26
   subst c26
   have H1 := H
   rw [if_neg (show ¬ (false = true) by decide)] at H1
   clear H
   have H := H1
   clear H1
   exact absurd H (by simp)
 ·
  replace c6 := Bool.eq_false_iff.mpr c6
  subst c6
  have H1 := H
  rw [if_neg (show ¬ (false = true) by decide)] at H1
  clear H
  have H := H1
  clear H1
  exact absurd H (by simp)

end Go.Proofs.YteeggfnailpcpaaDoor.Q
