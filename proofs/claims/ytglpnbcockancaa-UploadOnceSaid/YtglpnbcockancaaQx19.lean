/- Made by wip/myprint.py of this session (it drives the kit's printer): what the calls of the Go functions come to, as plain Lean functions, and the row of a law over them; without conditions. -/
import Derived.Test.YtglpnbcockancaaQx0
import Derived.Test.YtglpnbcockancaaQx1
import Derived.Test.YtglpnbcockancaaQx2
import Derived.Test.YtglpnbcockancaaQx4
import Derived.Test.YtglpnbcockancaaQx6
import Derived.Test.YtglpnbcockancaaQx7
import Derived.Test.YtglpnbcockancaaQx18
namespace Go.Proofs.Ytglpnbcockancaa.Q
open Go.RowKit Go.Proofs.YtglpnbcockancaaW.PrintWords Go.Proofs.YtglpnbcockancaaW.PrintLast Go.Proofs.YtglpnbcockancaaW.PrintMore
attribute [local go_sem] max2_int min2_int max_two min_two max_three min_three max_four min_four   -- for this text's walks alone
set_option linter.unusedVariables false
set_option linter.unusedSimpArgs false

/-! ### examboardlaw53_UploadOnce: function 4 -/
mutual
def examboardlaw53_UploadOnce.j3 : Nat → List Int → List Bool → Int → List Int → List (S25) → Option (Bool)
 | 0, _, _, _, _, _ => none
 | k + 1, x8, x12, x20018000, x20018001, x20018002 => examboardlaw53_UploadOnce.l2 k x8 x12 0 x20018000 x20018001 x20018002
def examboardlaw53_UploadOnce.l2 : Nat → List Int → List Bool → Int → Int → List Int → List (S25) → Option (Bool)
 | 0, _, _, _, _, _, _ => none
 | k + 1, x8, x12, x19, x20018000, x20018001, x20018002 => if x19 < (x8.length : Int) then (if 0 ≤ x19 then (if x19 < (x12.length : Int) then (if rdOf false x12 x19 = true then (examboardlaw53_UploadOnce.l2 k x8 x12 (wrap64 (x19 + 1)) x20018000 x20018001 x20018002) else (if (x20018001.length : Int) = x19 then ((examboardlaw53_awake.f k).bind fun t20042 => (some t20042)) else (none))) else (none)) else (none)) else (if (x20018001.length : Int) = x19 then (if (x20018002.length : Int) = 0 then ((examboardlaw53_awake.f k).bind fun t20043 => (some t20043)) else (none)) else (none))
def examboardlaw53_UploadOnce.l0 : Nat → List (S25) → List Int → List Bool → List Int → Int → Int → Int → List Int → List (S25) → Option (Bool)
 | 0, _, _, _, _, _, _, _, _, _ => none
 | k + 1, x7, x8, x12, x40, x41, x42, x20018000, x20018001, x20018002 => if x42 < x41 then (if 0 ≤ x42 then (if x42 < (x40.length : Int) then (if x42 ≥ 100 then (examboardlaw53_UploadOnce.j1 k x7 x8 x12 (rd x40 x42) x40 x41 x42 true x20018000 x20018001 x20018002) else (examboardlaw53_UploadOnce.j1 k x7 x8 x12 (rd x40 x42) x40 x41 x42 ((x7.length : Int) == 0) x20018000 x20018001 x20018002)) else (none)) else (none)) else (examboardlaw53_UploadOnce.j3 k x8 x12 x20018000 x20018001 x20018002)
def examboardlaw53_UploadOnce.j1 : Nat → List (S25) → List Int → List Bool → Int → List Int → Int → Int → Bool → Int → List Int → List (S25) → Option (Bool)
 | 0, _, _, _, _, _, _, _, _, _, _, _ => none
 | k + 1, x7, x8, x12, x14, x40, x41, x42, x53, x20018000, x20018001, x20018002 => if x53 = true then (examboardlaw53_UploadOnce.j3 k x8 x12 x20018000 x20018001 x20018002) else (if (x7.length : Int) = 0 then (none) else (if 0 ≤ (Int.tmod (wrap64 (x14)) (x7.length : Int)) then (if (Int.tmod (wrap64 (x14)) (x7.length : Int)) < (x7.length : Int) then ((upload_Receive.f k x20018000 x20018001 x20018002 ((rd_T25 x7 (Int.tmod (wrap64 (x14)) (x7.length : Int))).f0) ((rd_T25 x7 (Int.tmod (wrap64 (x14)) (x7.length : Int))).f1) ((rd_T25 x7 (Int.tmod (wrap64 (x14)) (x7.length : Int))).f2) ((rd_T25 x7 (Int.tmod (wrap64 (x14)) (x7.length : Int))).f3)).bind fun bt20024 => (if bt20024.2.2.2 = 0 then ((upload_Need.f bt20024.1 bt20024.2.1 bt20024.2.2.1).bind fun t20033 => (if t20033 = (bt20024.2.1.length : Int) then (if (bt20024.2.1.length : Int) > (x8.length : Int) then (none) else (if 0 ≤ (bt20024.2.1.length : Int) then (if (bt20024.2.1.length : Int) ≤ (x8.length : Int) then ((examboardlaw53_equal.f k bt20024.2.1 (x8.take ((bt20024.2.1.length : Int) : Int).toNat)).bind fun t20039 => (if t20039 = true then (if (bt20024.2.1.length : Int) < (x20018001.length : Int) then (none) else (examboardlaw53_UploadOnce.l1 k x7 x8 x12 x40 x41 x42 (((rd_T25 x7 (Int.tmod (wrap64 (x14)) (x7.length : Int))).f2).length : Int) 0 bt20024.1 bt20024.2.1 bt20024.2.2.1 ((rd_T25 x7 (Int.tmod (wrap64 (x14)) (x7.length : Int))).f0) ((rd_T25 x7 (Int.tmod (wrap64 (x14)) (x7.length : Int))).f1) ((rd_T25 x7 (Int.tmod (wrap64 (x14)) (x7.length : Int))).f2) ((rd_T25 x7 (Int.tmod (wrap64 (x14)) (x7.length : Int))).f3))) else (none))) else (none)) else (none))) else (none))) else (none))) else (none)) else (none)))
def examboardlaw53_UploadOnce.l1 : Nat → List (S25) → List Int → List Bool → List Int → Int → Int → Int → Int → Int → List Int → List (S25) → Int → Int → List Int → Int → Option (Bool)
 | 0, _, _, _, _, _, _, _, _, _, _, _, _, _, _, _ => none
 | k + 1, x7, x8, x12, x40, x41, x42, x109, x110, x20018000, x20018001, x20018002, x20024000, x20024001, x20024002, x20024003 => if x110 < x109 then (if 0 ≤ (wrap64 (x20024001 + x110)) then (if (wrap64 (x20024001 + x110)) < (x12.length : Int) then (examboardlaw53_UploadOnce.l1 k x7 x8 (x12.set ((wrap64 (x20024001 + x110)) : Int).toNat true) x40 x41 x42 x109 (wrap64 (x110 + 1)) x20018000 x20018001 x20018002 x20024000 x20024001 x20024002 x20024003) else (none)) else (none)) else (examboardlaw53_UploadOnce.l0 k x7 x8 x12 x40 x41 (wrap64 (x42 + 1)) x20018000 x20018001 x20018002)
end
def examboardlaw53_UploadOnce.f (k : Nat) (l0 : List Int) (a1_0 : Int) (a1_1 : Int) (l2 : List Int) : Option (Bool) := (examboardlaw53_fleet.f k l0 a1_0 a1_1).bind fun bt20002 => ((upload_New.f 5).bind fun bt20009 => (if bt20002.2.2 = true then (if bt20009.2.2.2 = 0 then (if 0 ≤ (bt20002.2.1.length : Int) then (if ((bt20002.2.1.length : Int) : Int).toNat ≤ 281474976710656 then (examboardlaw53_UploadOnce.l0 k bt20002.1 bt20002.2.1 (List.replicate ((bt20002.2.1.length : Int) : Int).toNat false) l2 (l2.length : Int) 0 bt20009.1 bt20009.2.1 bt20009.2.2.1) else (none)) else (none)) else (none)) else (none)))
theorem examboardlaw53_UploadOnce.mono_l : ∀ k, (∀ y0 y1 y2 y3 y4, LeO (examboardlaw53_UploadOnce.j3 k y0 y1 y2 y3 y4) (examboardlaw53_UploadOnce.j3 (k + 1) y0 y1 y2 y3 y4)) ∧ (∀ y0 y1 y2 y3 y4 y5, LeO (examboardlaw53_UploadOnce.l2 k y0 y1 y2 y3 y4 y5) (examboardlaw53_UploadOnce.l2 (k + 1) y0 y1 y2 y3 y4 y5)) ∧ (∀ y0 y1 y2 y3 y4 y5 y6 y7 y8, LeO (examboardlaw53_UploadOnce.l0 k y0 y1 y2 y3 y4 y5 y6 y7 y8) (examboardlaw53_UploadOnce.l0 (k + 1) y0 y1 y2 y3 y4 y5 y6 y7 y8)) ∧ (∀ y0 y1 y2 y3 y4 y5 y6 y7 y8 y9 y10, LeO (examboardlaw53_UploadOnce.j1 k y0 y1 y2 y3 y4 y5 y6 y7 y8 y9 y10) (examboardlaw53_UploadOnce.j1 (k + 1) y0 y1 y2 y3 y4 y5 y6 y7 y8 y9 y10)) ∧ (∀ y0 y1 y2 y3 y4 y5 y6 y7 y8 y9 y10 y11 y12 y13 y14, LeO (examboardlaw53_UploadOnce.l1 k y0 y1 y2 y3 y4 y5 y6 y7 y8 y9 y10 y11 y12 y13 y14) (examboardlaw53_UploadOnce.l1 (k + 1) y0 y1 y2 y3 y4 y5 y6 y7 y8 y9 y10 y11 y12 y13 y14))
 | 0 => ⟨fun _ _ _ _ _ r h => by simp [examboardlaw53_UploadOnce.j3] at h, fun _ _ _ _ _ _ r h => by simp [examboardlaw53_UploadOnce.l2] at h, fun _ _ _ _ _ _ _ _ _ r h => by simp [examboardlaw53_UploadOnce.l0] at h, fun _ _ _ _ _ _ _ _ _ _ _ r h => by simp [examboardlaw53_UploadOnce.j1] at h, fun _ _ _ _ _ _ _ _ _ _ _ _ _ _ _ r h => by simp [examboardlaw53_UploadOnce.l1] at h⟩
 | k + 1 => by
  obtain ⟨ih0, ih1, ih2, ih3, ih4⟩ := examboardlaw53_UploadOnce.mono_l k
  refine ⟨?_, ?_, ?_, ?_, ?_⟩
  ·
   intro y0 y1 y2 y3 y4
   unfold examboardlaw53_UploadOnce.j3
   repeat' first
   | (with_reducible exact ih0 _ _ _ _ _)
   | (with_reducible exact ih1 _ _ _ _ _ _)
   | (with_reducible exact ih2 _ _ _ _ _ _ _ _ _)
   | (with_reducible exact ih3 _ _ _ _ _ _ _ _ _ _ _)
   | (with_reducible exact ih4 _ _ _ _ _ _ _ _ _ _ _ _ _ _ _)
   | (with_reducible exact examboardlaw53_awake.mono _)
   | (with_reducible exact examboardlaw53_equal.mono _ _ _)
   | (with_reducible exact examboardlaw53_fleet.mono _ _ _ _)
   | (with_reducible exact upload_Receive.mono _ _ _ _ _ _ _ _)
   | (with_reducible exact LeO.refl _)
   | (with_reducible exact LeO.none _)
   | (with_reducible refine LeO.ite ?_ ?_)
   | (with_reducible refine LeO.bind ?_ (fun _ => ?_))
   | exact ih0 _ _ _ _ _
   | exact ih1 _ _ _ _ _ _
   | exact ih2 _ _ _ _ _ _ _ _ _
   | exact ih3 _ _ _ _ _ _ _ _ _ _ _
   | exact ih4 _ _ _ _ _ _ _ _ _ _ _ _ _ _ _
   | exact examboardlaw53_awake.mono _
   | exact examboardlaw53_equal.mono _ _ _
   | exact examboardlaw53_fleet.mono _ _ _ _
   | exact upload_Receive.mono _ _ _ _ _ _ _ _
   | exact LeO.none _
   | refine LeO.ite ?_ ?_
   | refine LeO.bind ?_ (fun _ => ?_)
  ·
   intro y0 y1 y2 y3 y4 y5
   unfold examboardlaw53_UploadOnce.l2
   repeat' first
   | (with_reducible exact ih0 _ _ _ _ _)
   | (with_reducible exact ih1 _ _ _ _ _ _)
   | (with_reducible exact ih2 _ _ _ _ _ _ _ _ _)
   | (with_reducible exact ih3 _ _ _ _ _ _ _ _ _ _ _)
   | (with_reducible exact ih4 _ _ _ _ _ _ _ _ _ _ _ _ _ _ _)
   | (with_reducible exact examboardlaw53_awake.mono _)
   | (with_reducible exact examboardlaw53_equal.mono _ _ _)
   | (with_reducible exact examboardlaw53_fleet.mono _ _ _ _)
   | (with_reducible exact upload_Receive.mono _ _ _ _ _ _ _ _)
   | (with_reducible exact LeO.refl _)
   | (with_reducible exact LeO.none _)
   | (with_reducible refine LeO.ite ?_ ?_)
   | (with_reducible refine LeO.bind ?_ (fun _ => ?_))
   | exact ih0 _ _ _ _ _
   | exact ih1 _ _ _ _ _ _
   | exact ih2 _ _ _ _ _ _ _ _ _
   | exact ih3 _ _ _ _ _ _ _ _ _ _ _
   | exact ih4 _ _ _ _ _ _ _ _ _ _ _ _ _ _ _
   | exact examboardlaw53_awake.mono _
   | exact examboardlaw53_equal.mono _ _ _
   | exact examboardlaw53_fleet.mono _ _ _ _
   | exact upload_Receive.mono _ _ _ _ _ _ _ _
   | exact LeO.none _
   | refine LeO.ite ?_ ?_
   | refine LeO.bind ?_ (fun _ => ?_)
  ·
   intro y0 y1 y2 y3 y4 y5 y6 y7 y8
   unfold examboardlaw53_UploadOnce.l0
   repeat' first
   | (with_reducible exact ih0 _ _ _ _ _)
   | (with_reducible exact ih1 _ _ _ _ _ _)
   | (with_reducible exact ih2 _ _ _ _ _ _ _ _ _)
   | (with_reducible exact ih3 _ _ _ _ _ _ _ _ _ _ _)
   | (with_reducible exact ih4 _ _ _ _ _ _ _ _ _ _ _ _ _ _ _)
   | (with_reducible exact examboardlaw53_awake.mono _)
   | (with_reducible exact examboardlaw53_equal.mono _ _ _)
   | (with_reducible exact examboardlaw53_fleet.mono _ _ _ _)
   | (with_reducible exact upload_Receive.mono _ _ _ _ _ _ _ _)
   | (with_reducible exact LeO.refl _)
   | (with_reducible exact LeO.none _)
   | (with_reducible refine LeO.ite ?_ ?_)
   | (with_reducible refine LeO.bind ?_ (fun _ => ?_))
   | exact ih0 _ _ _ _ _
   | exact ih1 _ _ _ _ _ _
   | exact ih2 _ _ _ _ _ _ _ _ _
   | exact ih3 _ _ _ _ _ _ _ _ _ _ _
   | exact ih4 _ _ _ _ _ _ _ _ _ _ _ _ _ _ _
   | exact examboardlaw53_awake.mono _
   | exact examboardlaw53_equal.mono _ _ _
   | exact examboardlaw53_fleet.mono _ _ _ _
   | exact upload_Receive.mono _ _ _ _ _ _ _ _
   | exact LeO.none _
   | refine LeO.ite ?_ ?_
   | refine LeO.bind ?_ (fun _ => ?_)
  ·
   intro y0 y1 y2 y3 y4 y5 y6 y7 y8 y9 y10
   unfold examboardlaw53_UploadOnce.j1
   repeat' first
   | (with_reducible exact ih0 _ _ _ _ _)
   | (with_reducible exact ih1 _ _ _ _ _ _)
   | (with_reducible exact ih2 _ _ _ _ _ _ _ _ _)
   | (with_reducible exact ih3 _ _ _ _ _ _ _ _ _ _ _)
   | (with_reducible exact ih4 _ _ _ _ _ _ _ _ _ _ _ _ _ _ _)
   | (with_reducible exact examboardlaw53_awake.mono _)
   | (with_reducible exact examboardlaw53_equal.mono _ _ _)
   | (with_reducible exact examboardlaw53_fleet.mono _ _ _ _)
   | (with_reducible exact upload_Receive.mono _ _ _ _ _ _ _ _)
   | (with_reducible exact LeO.refl _)
   | (with_reducible exact LeO.none _)
   | (with_reducible refine LeO.ite ?_ ?_)
   | (with_reducible refine LeO.bind ?_ (fun _ => ?_))
   | exact ih0 _ _ _ _ _
   | exact ih1 _ _ _ _ _ _
   | exact ih2 _ _ _ _ _ _ _ _ _
   | exact ih3 _ _ _ _ _ _ _ _ _ _ _
   | exact ih4 _ _ _ _ _ _ _ _ _ _ _ _ _ _ _
   | exact examboardlaw53_awake.mono _
   | exact examboardlaw53_equal.mono _ _ _
   | exact examboardlaw53_fleet.mono _ _ _ _
   | exact upload_Receive.mono _ _ _ _ _ _ _ _
   | exact LeO.none _
   | refine LeO.ite ?_ ?_
   | refine LeO.bind ?_ (fun _ => ?_)
  ·
   intro y0 y1 y2 y3 y4 y5 y6 y7 y8 y9 y10 y11 y12 y13 y14
   unfold examboardlaw53_UploadOnce.l1
   repeat' first
   | (with_reducible exact ih0 _ _ _ _ _)
   | (with_reducible exact ih1 _ _ _ _ _ _)
   | (with_reducible exact ih2 _ _ _ _ _ _ _ _ _)
   | (with_reducible exact ih3 _ _ _ _ _ _ _ _ _ _ _)
   | (with_reducible exact ih4 _ _ _ _ _ _ _ _ _ _ _ _ _ _ _)
   | (with_reducible exact examboardlaw53_awake.mono _)
   | (with_reducible exact examboardlaw53_equal.mono _ _ _)
   | (with_reducible exact examboardlaw53_fleet.mono _ _ _ _)
   | (with_reducible exact upload_Receive.mono _ _ _ _ _ _ _ _)
   | (with_reducible exact LeO.refl _)
   | (with_reducible exact LeO.none _)
   | (with_reducible refine LeO.ite ?_ ?_)
   | (with_reducible refine LeO.bind ?_ (fun _ => ?_))
   | exact ih0 _ _ _ _ _
   | exact ih1 _ _ _ _ _ _
   | exact ih2 _ _ _ _ _ _ _ _ _
   | exact ih3 _ _ _ _ _ _ _ _ _ _ _
   | exact ih4 _ _ _ _ _ _ _ _ _ _ _ _ _ _ _
   | exact examboardlaw53_awake.mono _
   | exact examboardlaw53_equal.mono _ _ _
   | exact examboardlaw53_fleet.mono _ _ _ _
   | exact upload_Receive.mono _ _ _ _ _ _ _ _
   | exact LeO.none _
   | refine LeO.ite ?_ ?_
   | refine LeO.bind ?_ (fun _ => ?_)
theorem examboardlaw53_UploadOnce.mono : ∀ a0 a1 a2 a3 k, LeO (examboardlaw53_UploadOnce.f k a0 a1 a2 a3) (examboardlaw53_UploadOnce.f (k + 1) a0 a1 a2 a3) := by
 intro a0 a1 a2 a3 k
 obtain ⟨ih0, ih1, ih2, ih3, ih4⟩ := examboardlaw53_UploadOnce.mono_l k
 unfold examboardlaw53_UploadOnce.f
 repeat' first
   | (with_reducible exact ih0 _ _ _ _ _)
   | (with_reducible exact ih1 _ _ _ _ _ _)
   | (with_reducible exact ih2 _ _ _ _ _ _ _ _ _)
   | (with_reducible exact ih3 _ _ _ _ _ _ _ _ _ _ _)
   | (with_reducible exact ih4 _ _ _ _ _ _ _ _ _ _ _ _ _ _ _)
   | (with_reducible exact examboardlaw53_awake.mono _)
   | (with_reducible exact examboardlaw53_equal.mono _ _ _)
   | (with_reducible exact examboardlaw53_fleet.mono _ _ _ _)
   | (with_reducible exact upload_Receive.mono _ _ _ _ _ _ _ _)
   | (with_reducible exact LeO.refl _)
   | (with_reducible exact LeO.none _)
   | (with_reducible refine LeO.ite ?_ ?_)
   | (with_reducible refine LeO.bind ?_ (fun _ => ?_))
   | exact ih0 _ _ _ _ _
   | exact ih1 _ _ _ _ _ _
   | exact ih2 _ _ _ _ _ _ _ _ _
   | exact ih3 _ _ _ _ _ _ _ _ _ _ _
   | exact ih4 _ _ _ _ _ _ _ _ _ _ _ _ _ _ _
   | exact examboardlaw53_awake.mono _
   | exact examboardlaw53_equal.mono _ _ _
   | exact examboardlaw53_fleet.mono _ _ _ _
   | exact upload_Receive.mono _ _ _ _ _ _ _ _
   | exact LeO.none _
   | refine LeO.ite ?_ ?_
   | refine LeO.bind ?_ (fun _ => ?_)
def examboardlaw53_UploadOnce.T12 : Bool × List (List Nat × List Nat) := (true, [([], []), ([0], [0]), ([1], [1]), ([2], [2]), ([3, 2, 2], [2, 3]), ([2], [2]), ([5, 2], [2, 5]), ([6, 2], [2, 6]), ([4, 7, 2], [2, 4, 7]), ([2, 8], [2, 8]), ([9, 4], [9]), ([10], [10]), ([11, 10], [10, 11]), ([12, 10], [10, 12]), ([10], [10]), ([14, 10], [10, 14]), ([13, 15, 10], [10, 13, 15]), ([10, 16], [10, 16]), ([17, 10], [17]), ([18], [18]), ([19, 18], [18, 19]), ([18], [18]), ([18], [18]), ([22, 18], [18, 22]), ([23, 18], [18, 23]), ([21, 24, 18], [18, 21, 24]), ([20, 25, 18, 18], [18, 20, 25]), ([26, 18], [18, 26]), ([18, 27], [18, 27]), ([28, 26], [28]), ([29], [29]), ([30, 29], [29, 30]), ([31, 29], [29, 31]), ([29], [29]), ([33, 29], [29, 33]), ([34, 29], [29, 34]), ([32, 35, 29], [29, 32, 35]), ([29, 36], [29, 36])])
def examboardlaw53_UploadOnce.B12 : List Nat := [0, 1, 3, 7, 15, 7, 39, 103, 255, 511, 1023, 2047, 4095, 8191, 2047, 18431, 65535, 131071, 262143, 524287, 1048575, 524287, 524287, 4718591, 13107199, 31981567, 67108863, 134217727, 268435455, 536870911, 1073741823, 2147483647, 4294967295, 1073741823, 9663676415, 26843545599, 68719476735, 137438953471]
theorem examboardlaw53_UploadOnce.tab12 : rtab .any (opsOf Try.f4 12) = examboardlaw53_UploadOnce.T12 := by kernel_rfl
theorem examboardlaw53_UploadOnce.bits12 : waitsOk examboardlaw53_UploadOnce.T12.2 examboardlaw53_UploadOnce.B12 = true := by kernel_rfl
set_option maxHeartbeats 8000000 in
set_option maxRecDepth 100000 in
theorem examboardlaw53_UploadOnce.calls (k : Nat) (A0 : Option Addr) (c0 : Nat) (l0 : List Int) (a1_0 : Int) (a1_1 : Int) (A2 : Option Addr) (c2 : Nat) (l2 : List Int) (r : Bool) (w : World) (hr0 : Kd.C (Kd.int .u8) w A0 l0.length l0) (hc0 : l0.length ≤ c0) (hr2 : Kd.C (Kd.int .u8) w A2 l2.length l2) (hc2 : l2.length ≤ c2) (h : examboardlaw53_UploadOnce.f k l0 a1_0 a1_1 l2 = some r) :
  Calls Try.prog 4 #[.slice A0 l0.length c0, .agg #[.int .u8 a1_0, .int .u8 a1_1], .slice A2 l2.length c2] w fun e w' => e = .returned (.bool r) ∧ Below w.heap.size w w' := by
 have hu41 := Try.underlying41
 have hu34 := Try.underlying34
 have hu25 := Try.underlying25
 have HR0 := am hr0
 have HC0 := am hc0
 clear hr0 hc0
 have HR2 := am hr2
 have HC2 := am hc2
 clear hr2 hc2
 have HB := am (Below.refl w.heap.size w)
 have H : ((examboardlaw53_fleet.f k l0 a1_0 a1_1).bind fun bt20002 => ((upload_New.f 5).bind fun bt20009 => (if bt20002.2.2 = true then (if bt20009.2.2.2 = 0 then (if 0 ≤ (bt20002.2.1.length : Int) then (if ((bt20002.2.1.length : Int) : Int).toNat ≤ 281474976710656 then (examboardlaw53_UploadOnce.l0 k bt20002.1 bt20002.2.1 (List.replicate ((bt20002.2.1.length : Int) : Int).toNat false) l2 (l2.length : Int) 0 bt20009.1 bt20009.2.1 bt20009.2.2.1) else (none)) else (none)) else (none)) else (none)))) = some r := h
 clear h
 replace H := Option.bind_eq_some_iff.mp H
 obtain ⟨⟨t20002, t20005, t20008⟩, A40, H⟩ := H
 replace H : ((upload_New.f 5).bind fun bt20009 => (if t20008 = true then (if bt20009.2.2.2 = 0 then (if 0 ≤ (t20005.length : Int) then (if ((t20005.length : Int) : Int).toNat ≤ 281474976710656 then (examboardlaw53_UploadOnce.l0 k t20002 t20005 (List.replicate ((t20005.length : Int) : Int).toNat false) l2 (l2.length : Int) 0 bt20009.1 bt20009.2.1 bt20009.2.2.1) else (none)) else (none)) else (none)) else (none))) = some r := H
 have A4 := am A40
 clear A40
 replace H := Option.bind_eq_some_iff.mp H
 obtain ⟨⟨t20009, t20010, t20013, t20016⟩, A50, H⟩ := H
 replace H : (if t20008 = true then (if t20016 = 0 then (if 0 ≤ (t20005.length : Int) then (if ((t20005.length : Int) : Int).toNat ≤ 281474976710656 then (examboardlaw53_UploadOnce.l0 k t20002 t20005 (List.replicate ((t20005.length : Int) : Int).toNat false) l2 (l2.length : Int) 0 t20009 t20010 t20013) else (none)) else (none)) else (none)) else (none)) = some r := H
 have A5 := am A50
 clear A50
 by_cases c6 : t20008 = true
 ·
  subst c6
  have H1 : (if t20016 = 0 then (if 0 ≤ (t20005.length : Int) then (if ((t20005.length : Int) : Int).toNat ≤ 281474976710656 then (examboardlaw53_UploadOnce.l0 k t20002 t20005 (List.replicate ((t20005.length : Int) : Int).toNat false) l2 (l2.length : Int) 0 t20009 t20010 t20013) else (none)) else (none)) else (none)) = some r := by rw [if_pos rfl] at H; exact H
  clear H
  have H := H1
  clear H1
  replace H := it_ H
  obtain ⟨c7, H⟩ := H
  have c7b0 : (t20016 == 0) = true := beq_iff_eq.mpr c7
  have c7b1 : (t20016 != 0) = false := bne_eq_false_iff_eq.mpr c7
  clear c7
  replace H := it_ H
  obtain ⟨c8, H⟩ := H
  have c8b0 := eq_true c8
  have c8b1 : decide (0 ≤ (t20005.length : Int)) = true := decide_eq_true c8
  clear c8
  replace H := it_ H
  obtain ⟨c9, H⟩ := H
  have c9b0 := eq_true c9
  have c9b1 : decide (((t20005.length : Int) : Int).toNat ≤ 281474976710656) = true := decide_eq_true c9
  clear c9
  obtain ⟨y20018, hy20018⟩ : ∃ y_ : List Bool, y_ = (List.replicate ((t20005.length : Int) : Int).toNat false) := ⟨_, rfl⟩
  replace H : (examboardlaw53_UploadOnce.l0 k t20002 t20005 y20018 l2 (l2.length : Int) 0 t20009 t20010 t20013) = some r := by first | (rw [hy20018]; with_reducible exact H) | (have H2_ := (Option.bind_some _ _).symm.trans H; rw [hy20018]; with_reducible exact H2_) | (have H2_ := (Option.bind_some _ _).symm.trans H; with_reducible exact H2_) | with_reducible exact H | (rw [hy20018]; exact H) | exact H
  have Ny20018 := am hy20018
  clear hy20018
  have HC10 := am H
  clear H
  go_enter Try.func4, Try.ntmps4
  go_upto_block 0 with (first | ((with_reducible refine gate_dst (N := 4) rfl ?_); (try (refine gate_guard (by rfl) ?_; dsimp only)); refine box_event ?hg (N := 4) ?hd (cs := #[.int .u8 a1_0, .int .u8 a1_1]) (t := 41) ?hr ?_; (case hd => rfl); (case hg => rfl); (case hr => exact gz); intro gb20001 hg w11 hbox hb; have BK20001 := am (hbox); have GW20001 := am ((bs hg (hz HB.out) : w.heap.size ≤ gb20001)); have GE20001 := am ((bs hg (hz HB.out) : w.heap.size ≤ gb20001)); replace HB := am (below_step (hz HB.out) hb); clear hb hbox hg; obtain ⟨hcz12_0, hcz12_1⟩ := cs2 BK20001.out; obtain ⟨hfz12_0, hfz12_1⟩ := fs2 BK20001.out) | ((with_reducible refine gate_callee (f := 19) rfl ?_); refine goesL_ (some 23) rfl rfl Try.func19 (by kernel_rfl) rfl #[.slice A0 l0.length c0, .agg #[.int .u8 a1_0, .int .u8 a1_1]] rfl lz ?_; (with_reducible refine (examboardlaw53_fleet.calls k (fun k_ => k_ < w.heap.size) _ _ l0 a1_0 a1_1 t20002 t20005 true _ ?side1 A4.out).mono ?_); (case side1 => exact Kd.V_mk HC0.out (Kd.F_below (Kd.C_F (Kd.heap_int .u8) HR0.out) (hz1 HB.out GE20001.out))); rintro e w13 ⟨v20003, v20006, rfl, ho0, ho1, hb⟩; refine ⟨_, rfl, ?_⟩; have HO20004 := am (Kd.N_lower (Kd.N_mono (ok' := fun k_ => k_ ≠ gb20001) ho0 (fun k_ hk_ => Or.elim hk_ (fun hs_ => fun e_ => Nat.not_le.2 hs_ (by rw [e_]; exact GW20001.out)) (fun hn_ => (Kd.freshB (g := gb20001) (o := .cells #[.int .u8 a1_0, .int .u8 a1_1] 41 (0, 0)) (bz BK20001.out) k_ hn_)))) (below_size (hz1 HB.out GE20001.out))); have HO20007 := am (Kd.V_lower (Kd.V_mono (ok' := fun k_ => some k_ ≠ (v20003 : Value).ownBlock ∧ k_ ≠ gb20001) ho1 (fun k_ hk_ => ⟨hk_.2, Or.elim hk_.1 (fun hs_ => fun e_ => Nat.not_le.2 hs_ (by rw [e_]; exact GW20001.out)) (fun hn_ => (Kd.freshB (g := gb20001) (o := .cells #[.int .u8 a1_0, .int .u8 a1_1] 41 (0, 0)) (bz BK20001.out) k_ hn_))⟩)) (below_size (hz1 HB.out GE20001.out))); replace BK20001 := am (blk_below (bz BK20001.out) hb); replace HB := am (below_step (hz1 HB.out GE20001.out) hb); (try clear hb); (try clear hb2); (try clear hk); (try clear hi); (try clear ho0); (try clear ho1)) | ((with_reducible refine gate_callee (f := 14) rfl ?_); refine goesL_ (some 28) rfl rfl Try.func14 (by kernel_rfl) rfl #[.int .i64 5] rfl lz ?_; (with_reducible refine (upload_New.calls 5 t20009 t20010 t20013 t20016 _ A5.out).mono ?_); rintro e w14 ⟨v20011, v20014, rfl, ho0, ho1, hb⟩; refine ⟨_, rfl, ?_⟩; replace HO20007 := am (Kd.V_mono (Kd.V_told (Kd.V_told (Kd.V_old (vz HO20007.out) hb) (Kd.R_base ho0)) (Kd.S_base ho1)) (fun _ h_ => h_.1)); have HO20012 := am (Kd.R_lower ho0 (below_size (hz1 HB.out GE20001.out))); have HO20015 := am (Kd.N_lower (Kd.N_mono (ok' := fun k_ => some k_ ≠ (v20011 : Value).ownBlock ∧ some k_ ≠ (v20003 : Value).ownBlock ∧ k_ ≠ gb20001) (Kd.S_N (Kd.S_bound ho1)) (fun k_ hk_ => ⟨hk_.1, (Kd.fresh' (Kd.N_lt (nz HO20004.out)) k_ hk_.2.1), (Kd.freshB (g := gb20001) (o := .cells #[.int .u8 a1_0, .int .u8 a1_1] 41 (0, 0)) (bz BK20001.out) k_ hk_.2.1)⟩)) (below_size (hz1 HB.out GE20001.out))); replace HO20004 := am (Kd.N_mono (Kd.N_told (Kd.N_told (Kd.N_old (nz HO20004.out) hb) (Kd.R_base ho0)) (Kd.S_base ho1)) (fun _ h_ => h_.1)); replace BK20001 := am (blk_below (bz BK20001.out) hb); replace HB := am (below_step (hz1 HB.out GE20001.out) hb); (try clear hb); (try clear hb2); (try clear hk); (try clear hi); (try clear ho0); (try clear ho1)) | ((with_reducible refine gate_dst (N := 10) rfl ?_); (try (refine gate_guard (by rfl) ?_; dsimp only)); refine box_event ?hg (N := 10) ?hd (cs := #[.int .i64 0, .slice none 0 0, .slice none 0 0]) (t := 34) ?hr ?_; (case hd => rfl); (case hg => rfl); (case hr => exact gz); intro gb20017 hg w15 hbox hb; replace HO20004 := am (Kd.N_below (Kd.N_elderB (nz HO20004.out) gb20017 (Nat.le_of_eq hg.symm)) hb); replace HO20007 := am (Kd.V_below (Kd.V_elderB (vz HO20007.out) gb20017 (Nat.le_of_eq hg.symm)) hb); replace HO20012 := am (Kd.R_below (rz HO20012.out) hb); replace HO20015 := am (Kd.N_below (Kd.N_elderB (nz HO20015.out) gb20017 (Nat.le_of_eq hg.symm)) hb); have BK20017 := am (hbox); have GW20017 := am ((bs hg (hz1 HB.out GE20001.out) : w.heap.size ≤ gb20017)); have GE20017 := am ((bs hg (hz1 HB.out GE20001.out) : w.heap.size ≤ gb20017)); replace HB := am (below_step (hz1 HB.out GE20001.out) hb); have NB20001_20017 := am ((nl hg (bz BK20001.out) : gb20001 ≠ gb20017)); have NB20017_20001 := am ((ng hg (bz BK20001.out) : gb20017 ≠ gb20001)); replace BK20001 := am (blk_below (bz BK20001.out) hb); clear hb hbox hg; have hnb16 := NB20017_20001.out; have hnc16 := NB20001_20017.out; obtain ⟨hcz17_0, hcz17_1, hcz17_2⟩ := cs3 BK20017.out; obtain ⟨hfz17_0, hfz17_1, hfz17_2⟩ := fs3 BK20017.out; obtain ⟨Ao18, co18, eo18⟩ := Kd.R_slice HO20012.out; subst eo18; obtain ⟨Ao19, co19, eo19⟩ := Kd.N_slice HO20015.out; subst eo19; obtain ⟨Ao20, co20, eo20⟩ := Kd.V_slice HO20007.out; subst eo20) | ((with_reducible refine gate_dst (N := 39) rfl ?_); (try (refine gate_guard (by rfl) ?_; dsimp only)); refine Kd.R_make Kd.bool _ 4 rfl (N := 39) rfl 44 _ _ rfl (t20005.length : Int) rfl rfl Try.underlying44 (.bool false) 1 info4 rfl (by decide) (by omega) false (ok := fun _ => True) (okp := fun _ => True) rfl (fun _ hk => hk) trivial (of_decide_eq_true az) (Nat.le_trans (Nat.mul_le_mul_right _ (of_decide_eq_true az : (t20005.length : Int).toNat ≤ 281474976710656)) (by omega)) (Below.refl _ _) (Nat.le_refl _) ?_; intro v20019 w21 ho22 hb hg_ hnew_; clear hg_ hnew_; (first | rw [← Ny20018.out] at ho22 | (simp only [Int.reduceToNat] at ho22; rw [← Ny20018.out] at ho22)); replace HO20004 := am (Kd.N_elder' (nz (Kd.N_mono (Kd.N_far (p := ⟨gb20017, 2, none⟩) (Kd.N_far (p := ⟨gb20017, 1, none⟩) (Kd.N_far (p := ⟨gb20017, 0, none⟩) (Kd.N_mono HO20004.out (fun k_ hk => (⟨hk, hk.2⟩ : _ ∧ k_ ≠ gb20017))) (fun _ hk => hk.2) (.int .i64 t20009)) (fun _ hk => hk.2) (.slice Ao18 t20010.length co18)) (fun _ hk => hk.2) (.slice Ao19 t20013.length co19)) (fun _ h_ => h_.1))) (Kd.R_base ho22) hb); replace HO20007 := am (Kd.V_elder' (vz (Kd.V_mono (Kd.V_far (p := ⟨gb20017, 2, none⟩) (Kd.V_far (p := ⟨gb20017, 1, none⟩) (Kd.V_far (p := ⟨gb20017, 0, none⟩) (Kd.V_mono HO20007.out (fun k_ hk => (⟨hk, hk.2⟩ : _ ∧ k_ ≠ gb20017))) (fun _ hk => hk.2) (.int .i64 t20009)) (fun _ hk => hk.2) (.slice Ao18 t20010.length co18)) (fun _ hk => hk.2) (.slice Ao19 t20013.length co19)) (fun _ h_ => h_.1))) (Kd.R_base ho22) hb); replace HO20012 := am (Kd.R_below (rz (rf3 HO20012.out BK20017.out)) hb); replace HO20015 := am (Kd.N_elder' (nz (Kd.N_mono (Kd.N_far (p := ⟨gb20017, 2, none⟩) (Kd.N_far (p := ⟨gb20017, 1, none⟩) (Kd.N_far (p := ⟨gb20017, 0, none⟩) (Kd.N_mono HO20015.out (fun k_ hk => (⟨hk, hk.2⟩ : _ ∧ k_ ≠ gb20017))) (fun _ hk => hk.2) (.int .i64 t20009)) (fun _ hk => hk.2) (.slice Ao18 t20010.length co18)) (fun _ hk => hk.2) (.slice Ao19 t20013.length co19)) (fun _ h_ => h_.1))) (Kd.R_base ho22) hb); have HO20020 := am (Kd.R_lower ho22 (below_size (hz2 HB.out GE20001.out GE20017.out))); replace BK20001 := am (blk_below (bf1 NB20001_20017.out BK20001.out) hb); replace BK20017 := am (blk_below (g := gb20017) (o := .cells #[.int .i64 t20009, .slice Ao18 t20010.length co18, .slice Ao19 t20013.length co19] 34 (0, 0)) (by (with_reducible repeat (first | refine blk_drewN ?_ _ | refine blk_drew ?_ | refine blk_alloc ?_ _)); refine blk_put (cs := #[.int .i64 t20009, .slice Ao18 t20010.length co18, .slice none 0 0]) ?_ 2 _ rfl; (with_reducible repeat (first | refine blk_drewN ?_ _ | refine blk_drew ?_ | refine blk_alloc ?_ _)); refine blk_put (cs := #[.int .i64 t20009, .slice none 0 0, .slice none 0 0]) ?_ 1 _ rfl; (with_reducible repeat (first | refine blk_drewN ?_ _ | refine blk_drew ?_ | refine blk_alloc ?_ _)); refine blk_put (cs := #[.int .i64 0, .slice none 0 0, .slice none 0 0]) ?_ 0 _ rfl; (with_reducible repeat (first | refine blk_drewN ?_ _ | refine blk_drew ?_ | refine blk_alloc ?_ _)); exact BK20017.out) hb); replace HB := am (below_step (hz2 HB.out GE20001.out GE20017.out) hb); clear hb ho22))
  (try simp only [Act.put, List.setIfInBounds_toArray, List.set_cons_zero, List.set_cons_succ])
  go_cut [] (fun wc => ∃ (kq : Nat) (x12_9 : List Bool) (x20018000_9 : Int) (x20018001_9 : List Int) (x20018002_9 : List (S25)) (u20018001 : Value) (u20018002 : Value), Aside0 (examboardlaw53_UploadOnce.j3 kq t20005 x12_9 x20018000_9 x20018001_9 x20018002_9 = some r) ∧ Aside0 (kq ≤ k) ∧ Aside0 (Kd.V (Kd.int .u8) 5 wc w.heap.size (fun k_ => some k_ ≠ (v20019 : Value).ownBlock ∧ some k_ ≠ (u20018001 : Value).ownBlock ∧ some k_ ≠ (u20018002 : Value).ownBlock ∧ k_ ≠ gb20001 ∧ k_ ≠ gb20017) (.slice Ao20 t20005.length co20) t20005) ∧ Aside0 (Kd.R Kd.bool 4 wc w.heap.size (fun _ => True) v20019 x12_9) ∧ Aside0 (Kd.R (Kd.int .u8) 5 wc w.heap.size (fun _ => True) u20018001 x20018001_9) ∧ Aside0 (Kd.N k25 25 wc w.heap.size (fun k_ => some k_ ≠ (v20019 : Value).ownBlock ∧ some k_ ≠ (u20018001 : Value).ownBlock ∧ k_ ≠ gb20001 ∧ k_ ≠ gb20017) u20018002 x20018002_9) ∧ Aside0 (wc.heap[gb20001]? = some (.cells #[.int .u8 a1_0, .int .u8 a1_1] 41 (0, 0))) ∧ Aside0 (wc.heap[gb20017]? = some (.cells #[.int .i64 x20018000_9, u20018001, u20018002] 34 (0, 0))) ∧ Aside0 (Below w.heap.size w wc))
  case first =>
   have H := HC10.out
   clear HC10
   have H' := am H
   clear H
   go_wp2
   go_loopg [42] k (fun kq v42 w' => ∃ (x12_1 : List Bool) (x42_1 : Int) (x20018000_1 : Int) (x20018001_1 : List Int) (x20018002_1 : List (S25)) (u20018001 : Value) (u20018002 : Value), v42 = .int .i64 x42_1 ∧ Aside0 (examboardlaw53_UploadOnce.l0 kq t20002 t20005 x12_1 l2 (l2.length : Int) x42_1 x20018000_1 x20018001_1 x20018002_1 = some r) ∧ Aside0 (kq ≤ k) ∧ Aside0 (Kd.N k25 25 w' w.heap.size (fun k_ => some k_ ≠ (v20019 : Value).ownBlock ∧ some k_ ≠ (u20018001 : Value).ownBlock ∧ some k_ ≠ (u20018002 : Value).ownBlock ∧ k_ ≠ gb20001 ∧ k_ ≠ gb20017) v20003 t20002) ∧ Aside0 (Kd.V (Kd.int .u8) 5 w' w.heap.size (fun k_ => some k_ ≠ (v20003 : Value).ownBlock ∧ some k_ ≠ (v20019 : Value).ownBlock ∧ some k_ ≠ (u20018001 : Value).ownBlock ∧ some k_ ≠ (u20018002 : Value).ownBlock ∧ k_ ≠ gb20001 ∧ k_ ≠ gb20017) (.slice Ao20 t20005.length co20) t20005) ∧ Aside0 (Kd.R Kd.bool 4 w' w.heap.size (fun _ => True) v20019 x12_1) ∧ Aside0 (Kd.R (Kd.int .u8) 5 w' w.heap.size (fun _ => True) u20018001 x20018001_1) ∧ Aside0 (Kd.N k25 25 w' w.heap.size (fun k_ => some k_ ≠ (v20003 : Value).ownBlock ∧ some k_ ≠ (v20019 : Value).ownBlock ∧ some k_ ≠ (u20018001 : Value).ownBlock ∧ k_ ≠ gb20001 ∧ k_ ≠ gb20017) u20018002 x20018002_1) ∧ Aside0 (w'.heap[gb20001]? = some (.cells #[.int .u8 a1_0, .int .u8 a1_1] 41 (0, 0))) ∧ Aside0 (w'.heap[gb20017]? = some (.cells #[.int .i64 x20018000_1, u20018001, u20018002] 34 (0, 0))) ∧ Aside0 (Below w.heap.size w w'))
   case atStart => exact ⟨(y20018), (0), (t20009), (t20010), (t20013), (.slice Ao18 t20010.length co18), (.slice Ao19 t20013.length co19), (by first | rfl | (simp; done) | (simp [*]; done)), H', ⟨Nat.le_refl _⟩, ⟨by (with_reducible repeat (first | apply Kd.N_alloc | apply Kd.N_drewN | apply Kd.N_drew)); exact Kd.N_mono HO20004.out (fun _ hk => ⟨hk.2, ⟨hk.1.1.1.2, ⟨hk.1.1.2, ⟨hk.1.1.1.1, hk.1.2⟩⟩⟩⟩)⟩, ⟨by (with_reducible repeat (first | apply Kd.V_alloc | apply Kd.V_drewN | apply Kd.V_drew)); exact Kd.V_mono HO20007.out (fun _ hk => ⟨hk.1.1.1.1.1, ⟨hk.2, ⟨hk.1.1.1.2, ⟨hk.1.1.2, ⟨hk.1.1.1.1.2, hk.1.2⟩⟩⟩⟩⟩)⟩, ⟨by (with_reducible repeat (first | apply Kd.R_alloc | apply Kd.R_drewN | apply Kd.R_drew)); exact HO20020.out⟩, ⟨by (with_reducible repeat (first | apply Kd.R_alloc | apply Kd.R_drewN | apply Kd.R_drew)); exact HO20012.out⟩, ⟨by (with_reducible repeat (first | apply Kd.N_alloc | apply Kd.N_drewN | apply Kd.N_drew)); exact Kd.N_mono HO20015.out (fun _ hk => ⟨hk.1.1.2.1, ⟨hk.2, ⟨hk.1.1.1, ⟨hk.1.1.2.2, hk.1.2⟩⟩⟩⟩)⟩, ⟨by (with_reducible repeat (first | refine blk_drewN ?_ _ | refine blk_drew ?_ | refine blk_alloc ?_ _)); exact BK20001.out⟩, ⟨by (with_reducible repeat (first | refine blk_drewN ?_ _ | refine blk_drew ?_ | refine blk_alloc ?_ _)); exact BK20017.out⟩, ⟨hz2 HB.out GE20001.out GE20017.out⟩⟩
   case round =>
    clear H'
    try clear c1
    try clear c2
    try clear p2
    try clear c4
    try clear c6
    try clear c7
    try clear c7b0
    try clear c7b1
    try clear c8
    try clear c8b0
    try clear c8b1
    try clear c9
    try clear c9b0
    try clear c9b1
    try clear c14
    try clear c16
    try clear c19
    try clear hcz12_0
    try clear hcz12_1
    try clear hcz17_0
    try clear hcz17_1
    try clear hcz17_2
    try clear hfz12_0
    try clear hfz12_1
    try clear hfz17_0
    try clear hfz17_1
    try clear hfz17_2
    obtain ⟨x12_1, x42_1, x20018000_1, x20018001_1, x20018002_1, u20018001, u20018002, rfl, HA, HK1, HO_7, HO_8, HO_12, HO_20018001, HO_20018002, BK20001, BK20017, HB⟩ := hrel
    cases gk with
    | zero => exact absurd HA.out (by simp [examboardlaw53_UploadOnce.l0])
    | succ k1 =>
     have H := HA.out
     clear HA
     simp only [examboardlaw53_UploadOnce.l0] at H
     by_cases c23 : x42_1 < (l2.length : Int)
     ·
      rw [if_pos c23] at H
      have c23b0 : decide (x42_1 < (l2.length : Int)) = true := decide_eq_true c23
      clear c23
      (first | rw [c23b0] | (simp only [i64_w, i32_w]; rw [c23b0]) | skip)
      replace H := it_ H
      obtain ⟨c24, H⟩ := H
      have c24b0 : decide (0 ≤ x42_1) = true := decide_eq_true c24
      clear c24
      replace H := it_ H
      obtain ⟨c25, H⟩ := H
      have c25b0 : decide (x42_1 < (l2.length : Int)) = true := decide_eq_true c25
      clear c25
      have HC26 := am H
      clear H
      have p20021 : 0 ≤ (x42_1 : Int) := of_decide_eq_true az
      have q20021 : x42_1 < (l2.length : Int) := of_decide_eq_true az
      obtain ⟨ad20021, e20021, hx20021_0⟩ := Kd.at_int HR2.out x42_1 p20021 q20021
      cases e20021
      replace hx20021_0 := (HB.out.cell (World.block_lt_of_cell? w _ hx20021_0)).trans hx20021_0
      replace p20021 := eq_true p20021
      replace q20021 := eq_true q20021
      go_upto_region 9 with (fail)
      go_cut [53] (fun v53 wc => ∃ (kq : Nat) (x53_25 : Bool), v53 = .bool x53_25 ∧ Aside0 (examboardlaw53_UploadOnce.j1 kq t20002 t20005 x12_1 (rd l2 x42_1) l2 (l2.length : Int) x42_1 x53_25 x20018000_1 x20018001_1 x20018002_1 = some r) ∧ Aside0 (kq ≤ k1) ∧ Aside0 (Kd.N k25 25 wc w.heap.size (fun k_ => some k_ ≠ (v20019 : Value).ownBlock ∧ some k_ ≠ (u20018001 : Value).ownBlock ∧ some k_ ≠ (u20018002 : Value).ownBlock ∧ k_ ≠ gb20001 ∧ k_ ≠ gb20017) v20003 t20002) ∧ Aside0 (Kd.V (Kd.int .u8) 5 wc w.heap.size (fun k_ => some k_ ≠ (v20003 : Value).ownBlock ∧ some k_ ≠ (v20019 : Value).ownBlock ∧ some k_ ≠ (u20018001 : Value).ownBlock ∧ some k_ ≠ (u20018002 : Value).ownBlock ∧ k_ ≠ gb20001 ∧ k_ ≠ gb20017) (.slice Ao20 t20005.length co20) t20005) ∧ Aside0 (Kd.R Kd.bool 4 wc w.heap.size (fun _ => True) v20019 x12_1) ∧ Aside0 (Kd.R (Kd.int .u8) 5 wc w.heap.size (fun _ => True) u20018001 x20018001_1) ∧ Aside0 (Kd.N k25 25 wc w.heap.size (fun k_ => some k_ ≠ (v20003 : Value).ownBlock ∧ some k_ ≠ (v20019 : Value).ownBlock ∧ some k_ ≠ (u20018001 : Value).ownBlock ∧ k_ ≠ gb20001 ∧ k_ ≠ gb20017) u20018002 x20018002_1) ∧ Aside0 (wc.heap[gb20001]? = some (.cells #[.int .u8 a1_0, .int .u8 a1_1] 41 (0, 0))) ∧ Aside0 (wc.heap[gb20017]? = some (.cells #[.int .i64 x20018000_1, u20018001, u20018002] 34 (0, 0))) ∧ Aside0 (Below w.heap.size w wc))
      case first =>
       have H := HC26.out
       clear HC26
       by_cases c27 : x42_1 ≥ 100
       ·
        rw [if_pos c27] at H
        have c27b0 : decide (100 ≤ x42_1) = true := decide_eq_true c27
        clear c27
        (first | rw [c27b0] | (simp only [i64_w, i32_w]; rw [c27b0]) | skip)
        have H' := am H
        clear H
        go_wp2
        go_meet
        case rel => exact ⟨_, (true), (by first | rfl | (simp; done) | (simp [*]; done)), H', ⟨by have := HK1.out; first | omega | exact Nat.le_refl _⟩, ⟨by (with_reducible repeat (first | apply Kd.N_alloc | apply Kd.N_drewN | apply Kd.N_drew)); exact HO_7.out⟩, ⟨by (with_reducible repeat (first | apply Kd.V_alloc | apply Kd.V_drewN | apply Kd.V_drew)); exact HO_8.out⟩, ⟨by (with_reducible repeat (first | apply Kd.R_alloc | apply Kd.R_drewN | apply Kd.R_drew)); exact HO_12.out⟩, ⟨by (with_reducible repeat (first | apply Kd.R_alloc | apply Kd.R_drewN | apply Kd.R_drew)); exact HO_20018001.out⟩, ⟨by (with_reducible repeat (first | apply Kd.N_alloc | apply Kd.N_drewN | apply Kd.N_drew)); exact HO_20018002.out⟩, ⟨by (with_reducible repeat (first | refine blk_drewN ?_ _ | refine blk_drew ?_ | refine blk_alloc ?_ _)); exact BK20001.out⟩, ⟨by (with_reducible repeat (first | refine blk_drewN ?_ _ | refine blk_drew ?_ | refine blk_alloc ?_ _)); exact BK20017.out⟩, ⟨hz2 HB.out GE20001.out GE20017.out⟩⟩
       ·
        rw [if_neg c27] at H
        have c27b0 : decide (100 ≤ x42_1) = false := decide_eq_false c27
        clear c27
        (first | rw [c27b0] | (simp only [i64_w, i32_w]; rw [c27b0]) | skip)
        have H' := am H
        clear H
        obtain ⟨Ao28, co28, eo28⟩ := Kd.N_slice HO_7.out
        subst eo28
        go_wp2
        go_meet
        case rel => exact ⟨_, (((t20002.length : Int) == 0)), (by first | rfl | (simp; done) | (simp [*]; done)), H', ⟨by have := HK1.out; first | omega | exact Nat.le_refl _⟩, ⟨by (with_reducible repeat (first | apply Kd.N_alloc | apply Kd.N_drewN | apply Kd.N_drew)); exact HO_7.out⟩, ⟨by (with_reducible repeat (first | apply Kd.V_alloc | apply Kd.V_drewN | apply Kd.V_drew)); exact HO_8.out⟩, ⟨by (with_reducible repeat (first | apply Kd.R_alloc | apply Kd.R_drewN | apply Kd.R_drew)); exact HO_12.out⟩, ⟨by (with_reducible repeat (first | apply Kd.R_alloc | apply Kd.R_drewN | apply Kd.R_drew)); exact HO_20018001.out⟩, ⟨by (with_reducible repeat (first | apply Kd.N_alloc | apply Kd.N_drewN | apply Kd.N_drew)); exact HO_20018002.out⟩, ⟨by (with_reducible repeat (first | refine blk_drewN ?_ _ | refine blk_drew ?_ | refine blk_alloc ?_ _)); exact BK20001.out⟩, ⟨by (with_reducible repeat (first | refine blk_drewN ?_ _ | refine blk_drew ?_ | refine blk_alloc ?_ _)); exact BK20017.out⟩, ⟨hz2 HB.out GE20001.out GE20017.out⟩⟩
      case rest =>
       clear HC26
       try clear c1
       try clear c2
       try clear p2
       try clear q2
       try clear hx2
       try clear c4
       try clear c6
       try clear c7
       try clear c7b0
       try clear c7b1
       try clear c8
       try clear c8b0
       try clear c8b1
       try clear c9
       try clear c9b0
       try clear c9b1
       try clear c14
       try clear c16
       try clear c19
       try clear p20
       try clear q20
       try clear hx20
       try clear c23
       try clear c23b0
       try clear c24
       try clear c24b0
       try clear c25
       try clear c25b0
       try clear c27
       try clear c27b0
       try clear hcz12_0
       try clear hcz12_1
       try clear hcz17_0
       try clear hcz17_1
       try clear hcz17_2
       try clear hfz12_0
       try clear hfz12_1
       try clear hfz17_0
       try clear hfz17_1
       try clear hfz17_2
       try clear hx20021_0
       try clear p2
       try clear p20021
       try clear q20021
       obtain ⟨kq, x53_25, rfl, HA, HJ25, HO_7, HO_8, HO_12, HO_20018001, HO_20018002, BK20001, BK20017, HB⟩ := hcut
       cases kq with
       | zero => exact absurd HA.out (by simp [examboardlaw53_UploadOnce.j1])
       | succ kj25 =>
        have H := HA.out
        clear HA
        simp only [examboardlaw53_UploadOnce.j1] at H
        by_cases c29 : x53_25 = true
        ·
         subst c29
         have H1 : (examboardlaw53_UploadOnce.j3 kj25 t20005 x12_1 x20018000_1 x20018001_1 x20018002_1) = some r := by rw [if_pos rfl] at H; exact H
         clear H
         have H := H1
         clear H1
         have H' := am H
         clear H
         go_wp2
         go_meet
         case rel => exact ⟨_, (x12_1), (x20018000_1), (x20018001_1), (x20018002_1), (u20018001), (u20018002), H', ⟨by have := HK1.out; have := HJ25.out; first | omega | exact Nat.le_refl _⟩, ⟨by (with_reducible repeat (first | apply Kd.V_alloc | apply Kd.V_drewN | apply Kd.V_drew)); exact Kd.V_mono HO_8.out (fun _ hk => ⟨hk.2.1, ⟨hk.2.2.1, ⟨hk.2.2.2.1, ⟨hk.2.2.2.2.1, hk.2.2.2.2.2⟩⟩⟩⟩)⟩, ⟨by (with_reducible repeat (first | apply Kd.R_alloc | apply Kd.R_drewN | apply Kd.R_drew)); exact HO_12.out⟩, ⟨by (with_reducible repeat (first | apply Kd.R_alloc | apply Kd.R_drewN | apply Kd.R_drew)); exact HO_20018001.out⟩, ⟨by (with_reducible repeat (first | apply Kd.N_alloc | apply Kd.N_drewN | apply Kd.N_drew)); exact Kd.N_mono HO_20018002.out (fun _ hk => ⟨hk.2.1, ⟨hk.2.2.1, ⟨hk.2.2.2.1, hk.2.2.2.2⟩⟩⟩)⟩, ⟨by (with_reducible repeat (first | refine blk_drewN ?_ _ | refine blk_drew ?_ | refine blk_alloc ?_ _)); exact BK20001.out⟩, ⟨by (with_reducible repeat (first | refine blk_drewN ?_ _ | refine blk_drew ?_ | refine blk_alloc ?_ _)); exact BK20017.out⟩, ⟨hz2 HB.out GE20001.out GE20017.out⟩⟩
        ·
         replace c29 := Bool.eq_false_iff.mpr c29
         subst c29
         have H1 : (if (t20002.length : Int) = 0 then (none) else (if 0 ≤ (Int.tmod (wrap64 ((rd l2 x42_1))) (t20002.length : Int)) then (if (Int.tmod (wrap64 ((rd l2 x42_1))) (t20002.length : Int)) < (t20002.length : Int) then ((upload_Receive.f kj25 x20018000_1 x20018001_1 x20018002_1 ((rd_T25 t20002 (Int.tmod (wrap64 ((rd l2 x42_1))) (t20002.length : Int))).f0) ((rd_T25 t20002 (Int.tmod (wrap64 ((rd l2 x42_1))) (t20002.length : Int))).f1) ((rd_T25 t20002 (Int.tmod (wrap64 ((rd l2 x42_1))) (t20002.length : Int))).f2) ((rd_T25 t20002 (Int.tmod (wrap64 ((rd l2 x42_1))) (t20002.length : Int))).f3)).bind fun bt20024 => (if bt20024.2.2.2 = 0 then ((upload_Need.f bt20024.1 bt20024.2.1 bt20024.2.2.1).bind fun t20033 => (if t20033 = (bt20024.2.1.length : Int) then (if (bt20024.2.1.length : Int) > (t20005.length : Int) then (none) else (if 0 ≤ (bt20024.2.1.length : Int) then (if (bt20024.2.1.length : Int) ≤ (t20005.length : Int) then ((examboardlaw53_equal.f kj25 bt20024.2.1 (t20005.take ((bt20024.2.1.length : Int) : Int).toNat)).bind fun t20039 => (if t20039 = true then (if (bt20024.2.1.length : Int) < (x20018001_1.length : Int) then (none) else (examboardlaw53_UploadOnce.l1 kj25 t20002 t20005 x12_1 l2 (l2.length : Int) x42_1 (((rd_T25 t20002 (Int.tmod (wrap64 ((rd l2 x42_1))) (t20002.length : Int))).f2).length : Int) 0 bt20024.1 bt20024.2.1 bt20024.2.2.1 ((rd_T25 t20002 (Int.tmod (wrap64 ((rd l2 x42_1))) (t20002.length : Int))).f0) ((rd_T25 t20002 (Int.tmod (wrap64 ((rd l2 x42_1))) (t20002.length : Int))).f1) ((rd_T25 t20002 (Int.tmod (wrap64 ((rd l2 x42_1))) (t20002.length : Int))).f2) ((rd_T25 t20002 (Int.tmod (wrap64 ((rd l2 x42_1))) (t20002.length : Int))).f3))) else (none))) else (none)) else (none))) else (none))) else (none))) else (none)) else (none))) = some r := by rw [if_neg (show ¬ (false = true) by decide)] at H; exact H
         clear H
         have H := H1
         clear H1
         replace H := ie_ H
         obtain ⟨c30, H⟩ := H
         have c30b0 : ((t20002.length : Int) == 0) = false := beq_eq_false_iff_ne.mpr c30
         have c30b1 : ((t20002.length : Int) != 0) = true := bne_iff_ne.mpr c30
         have c30b2 : ¬ (t20002 = []) := fun h_ => c30 (by rw [h_]; rfl)
         obtain ⟨ji31, hji31⟩ : ∃ j_ : Int, (Int.tmod (wrap64 ((rd l2 x42_1))) (t20002.length : Int)) = j_ := ⟨_, rfl⟩
         replace H : (if 0 ≤ (ji31) then (if (ji31) < (t20002.length : Int) then ((upload_Receive.f kj25 x20018000_1 x20018001_1 x20018002_1 ((rd_T25 t20002 (ji31)).f0) ((rd_T25 t20002 (ji31)).f1) ((rd_T25 t20002 (ji31)).f2) ((rd_T25 t20002 (ji31)).f3)).bind fun bt20024 => (if bt20024.2.2.2 = 0 then ((upload_Need.f bt20024.1 bt20024.2.1 bt20024.2.2.1).bind fun t20033 => (if t20033 = (bt20024.2.1.length : Int) then (if (bt20024.2.1.length : Int) > (t20005.length : Int) then (none) else (if 0 ≤ (bt20024.2.1.length : Int) then (if (bt20024.2.1.length : Int) ≤ (t20005.length : Int) then ((examboardlaw53_equal.f kj25 bt20024.2.1 (t20005.take ((bt20024.2.1.length : Int) : Int).toNat)).bind fun t20039 => (if t20039 = true then (if (bt20024.2.1.length : Int) < (x20018001_1.length : Int) then (none) else (examboardlaw53_UploadOnce.l1 kj25 t20002 t20005 x12_1 l2 (l2.length : Int) x42_1 (((rd_T25 t20002 (ji31)).f2).length : Int) 0 bt20024.1 bt20024.2.1 bt20024.2.2.1 ((rd_T25 t20002 (ji31)).f0) ((rd_T25 t20002 (ji31)).f1) ((rd_T25 t20002 (ji31)).f2) ((rd_T25 t20002 (ji31)).f3))) else (none))) else (none)) else (none))) else (none))) else (none))) else (none)) else (none)) = some r := by first | (rw [hji31] at H; exact H) | (simp only [hji31] at H ⊢; exact H)
         replace H := it_ H
         obtain ⟨c32, H⟩ := H
         have c32b0 : decide (0 ≤ (ji31)) = true := decide_eq_true c32
         clear c32
         replace H := it_ H
         obtain ⟨c33, H⟩ := H
         have c33b0 : decide ((ji31) < (t20002.length : Int)) = true := decide_eq_true c33
         clear c33
         replace H := Option.bind_eq_some_iff.mp H
         obtain ⟨⟨t20024, t20025, t20028, t20031⟩, A340, H⟩ := H
         replace H : (if t20031 = 0 then ((upload_Need.f t20024 t20025 t20028).bind fun t20033 => (if t20033 = (t20025.length : Int) then (if (t20025.length : Int) > (t20005.length : Int) then (none) else (if 0 ≤ (t20025.length : Int) then (if (t20025.length : Int) ≤ (t20005.length : Int) then ((examboardlaw53_equal.f kj25 t20025 (t20005.take ((t20025.length : Int) : Int).toNat)).bind fun t20039 => (if t20039 = true then (if (t20025.length : Int) < (x20018001_1.length : Int) then (none) else (examboardlaw53_UploadOnce.l1 kj25 t20002 t20005 x12_1 l2 (l2.length : Int) x42_1 (((rd_T25 t20002 (ji31)).f2).length : Int) 0 t20024 t20025 t20028 ((rd_T25 t20002 (ji31)).f0) ((rd_T25 t20002 (ji31)).f1) ((rd_T25 t20002 (ji31)).f2) ((rd_T25 t20002 (ji31)).f3))) else (none))) else (none)) else (none))) else (none))) else (none)) = some r := H
         have A34 := am A340
         clear A340
         replace H := it_ H
         obtain ⟨c35, H⟩ := H
         have c35b0 : (t20031 == 0) = true := beq_iff_eq.mpr c35
         have c35b1 : (t20031 != 0) = false := bne_eq_false_iff_eq.mpr c35
         clear c35
         replace H := Option.bind_eq_some_iff.mp H
         obtain ⟨t20033, A360, H⟩ := H
         replace H : (if t20033 = (t20025.length : Int) then (if (t20025.length : Int) > (t20005.length : Int) then (none) else (if 0 ≤ (t20025.length : Int) then (if (t20025.length : Int) ≤ (t20005.length : Int) then ((examboardlaw53_equal.f kj25 t20025 (t20005.take ((t20025.length : Int) : Int).toNat)).bind fun t20039 => (if t20039 = true then (if (t20025.length : Int) < (x20018001_1.length : Int) then (none) else (examboardlaw53_UploadOnce.l1 kj25 t20002 t20005 x12_1 l2 (l2.length : Int) x42_1 (((rd_T25 t20002 (ji31)).f2).length : Int) 0 t20024 t20025 t20028 ((rd_T25 t20002 (ji31)).f0) ((rd_T25 t20002 (ji31)).f1) ((rd_T25 t20002 (ji31)).f2) ((rd_T25 t20002 (ji31)).f3))) else (none))) else (none)) else (none))) else (none)) = some r := H
         have A36 := am A360
         clear A360
         replace H := it_ H
         obtain ⟨c37, H⟩ := H
         have c37b0 : (t20033 == (t20025.length : Int)) = true := beq_iff_eq.mpr c37
         have c37b1 : (t20033 != (t20025.length : Int)) = false := bne_eq_false_iff_eq.mpr c37
         clear c37
         replace H := ie_ H
         obtain ⟨c38, H⟩ := H
         have c38b0 : decide ((t20005.length : Int) < (t20025.length : Int)) = false := decide_eq_false c38
         have c38b1 : decide (t20005.length < t20025.length) = false := decide_eq_false (fun h => c38 (Int.ofNat_lt.mpr h))
         clear c38
         replace H := it_ H
         obtain ⟨c39, H⟩ := H
         have c39b0 := eq_true c39
         have c39b1 : decide (0 ≤ (t20025.length : Int)) = true := decide_eq_true c39
         clear c39
         replace H := it_ H
         obtain ⟨c40, H⟩ := H
         have c40b0 := eq_true c40
         have c40b1 : decide ((t20025.length : Int) ≤ (t20005.length : Int)) = true := decide_eq_true c40
         clear c40
         obtain ⟨y20034, hy20034⟩ : ∃ y_ : List Int, y_ = (t20005.take ((t20025.length : Int) : Int).toNat) := ⟨_, rfl⟩
         replace H : ((examboardlaw53_equal.f kj25 t20025 y20034).bind fun t20039 => (if t20039 = true then (if (t20025.length : Int) < (x20018001_1.length : Int) then (none) else (examboardlaw53_UploadOnce.l1 kj25 t20002 t20005 x12_1 l2 (l2.length : Int) x42_1 (((rd_T25 t20002 (ji31)).f2).length : Int) 0 t20024 t20025 t20028 ((rd_T25 t20002 (ji31)).f0) ((rd_T25 t20002 (ji31)).f1) ((rd_T25 t20002 (ji31)).f2) ((rd_T25 t20002 (ji31)).f3))) else (none))) = some r := by first | (rw [hy20034]; with_reducible exact H) | (have H2_ := (Option.bind_some _ _).symm.trans H; rw [hy20034]; with_reducible exact H2_) | (have H2_ := (Option.bind_some _ _).symm.trans H; with_reducible exact H2_) | with_reducible exact H | (rw [hy20034]; exact H) | exact H
         have Ny20034 := am hy20034
         clear hy20034
         replace H := Option.bind_eq_some_iff.mp H
         obtain ⟨t20039, A410, H⟩ := H
         replace H : (if t20039 = true then (if (t20025.length : Int) < (x20018001_1.length : Int) then (none) else (examboardlaw53_UploadOnce.l1 kj25 t20002 t20005 x12_1 l2 (l2.length : Int) x42_1 (((rd_T25 t20002 (ji31)).f2).length : Int) 0 t20024 t20025 t20028 ((rd_T25 t20002 (ji31)).f0) ((rd_T25 t20002 (ji31)).f1) ((rd_T25 t20002 (ji31)).f2) ((rd_T25 t20002 (ji31)).f3))) else (none)) = some r := H
         have A41 := am A410
         clear A410
         by_cases c42 : t20039 = true
         ·
          subst c42
          have H1 : (if (t20025.length : Int) < (x20018001_1.length : Int) then (none) else (examboardlaw53_UploadOnce.l1 kj25 t20002 t20005 x12_1 l2 (l2.length : Int) x42_1 (((rd_T25 t20002 (ji31)).f2).length : Int) 0 t20024 t20025 t20028 ((rd_T25 t20002 (ji31)).f0) ((rd_T25 t20002 (ji31)).f1) ((rd_T25 t20002 (ji31)).f2) ((rd_T25 t20002 (ji31)).f3))) = some r := by rw [if_pos rfl] at H; exact H
          clear H
          have H := H1
          clear H1
          replace H := ie_ H
          obtain ⟨c43, H⟩ := H
          have c43b0 : decide ((t20025.length : Int) < (x20018001_1.length : Int)) = false := decide_eq_false c43
          have c43b1 : decide (t20025.length < x20018001_1.length) = false := decide_eq_false (fun h => c43 (Int.ofNat_lt.mpr h))
          clear c43
          have H' := am H
          clear H
          obtain ⟨Ao44, co44, eo44⟩ := Kd.N_slice HO_7.out
          subst eo44
          have p20022 : 0 ≤ ((ji31) : Int) := of_decide_eq_true az
          have q20022 : (ji31) < (t20002.length : Int) := of_decide_eq_true az
          obtain ⟨ad20022, A20022_2, c20022_2, e20022, hx20022_0, hx20022_1, hx20022_2, hx20022_3, hl20022_2, hi20022_2⟩ := at_T25 (Kd.N_reads' HO_7.out).2.2 (ji31) p20022 q20022
          cases e20022
          obtain ⟨ce20022, hce20022, hMe20022, hcc20022⟩ := Kd.N_get HO_7.out z25 (ji31) p20022 (by first | exact q20022 | exact of_decide_eq_true az | (have e_ := (Kd.N_reads' HO_7.out).1; omega))
          obtain ⟨ua20022_2, uc20022_2, rfl, ul20022_2, ge20022_2⟩ := k25_openF hMe20022
          have hv20022_2 := hcc20022 2 _ rfl
          rw [add_field _ _ 2 (by omega)] at hv20022_2
          replace hv20022_2 := Option.some.inj (hv20022_2.symm.trans hx20022_2)
          injection hv20022_2 with hva_ hvn_ hvc_
          rw [hva_] at ge20022_2
          rw [hvc_] at ul20022_2
          have HL20022_2 := am (show Kd.V (Kd.int .u8) 5 _ w.heap.size _ _ ((rd_T25 t20002 (ji31)).f2) from Kd.V_mk ul20022_2 ge20022_2)
          clear hva_ hvn_ hvc_ ge20022_2 ul20022_2
          clear hcc20022 hce20022
          have HR20022_2 := am hi20022_2
          have HC20022_2 := am hl20022_2
          clear hi20022_2 hl20022_2
          replace p20022 := eq_true p20022
          replace q20022 := eq_true q20022
          try go_wp2_with (first | ((with_reducible refine gate_dst (N := 15) rfl ?_); (try (refine gate_guard (by rfl) ?_; dsimp only)); refine box_event ?hg (N := 15) ?hd (cs := #[.int .i64 0, .int .i64 0, .slice none 0 0, .int .u64 0]) (t := 25) ?hr ?_; (case hd => rfl); (case hg => rfl); (case hr => exact gz); intro gb20023 hg w45 hbox hb; replace HO_7 := am (Kd.N_below (Kd.N_elderB (nz HO_7.out) gb20023 (Nat.le_of_eq hg.symm)) hb); replace HO_8 := am (Kd.V_below (Kd.V_elderB (vz HO_8.out) gb20023 (Nat.le_of_eq hg.symm)) hb); replace HO_12 := am (Kd.R_below (rz HO_12.out) hb); replace HO_20018001 := am (Kd.R_below (rz HO_20018001.out) hb); replace HO_20018002 := am (Kd.N_below (Kd.N_elderB (nz HO_20018002.out) gb20023 (Nat.le_of_eq hg.symm)) hb); replace HL20022_2 := am (Kd.V_below (Kd.V_elderB (vz HL20022_2.out) gb20023 (Nat.le_of_eq hg.symm)) hb); replace HR20022_2 := am (Kd.C_below (cz HR20022_2.out) hb); have BK20023 := am (hbox); have GW20023 := am ((bs hg (hz2 HB.out GE20001.out GE20017.out) : w.heap.size ≤ gb20023)); have GE20023 := am ((bs hg (hz2 HB.out GE20001.out GE20017.out) : w.heap.size ≤ gb20023)); replace HB := am (below_step (hz2 HB.out GE20001.out GE20017.out) hb); have NB20001_20023 := am ((nl hg (bz BK20001.out) : gb20001 ≠ gb20023)); have NB20023_20001 := am ((ng hg (bz BK20001.out) : gb20023 ≠ gb20001)); replace BK20001 := am (blk_below (bz BK20001.out) hb); have NB20017_20023 := am ((nl hg (bz BK20017.out) : gb20017 ≠ gb20023)); have NB20023_20017 := am ((ng hg (bz BK20017.out) : gb20023 ≠ gb20017)); replace BK20017 := am (blk_below (bz BK20017.out) hb); clear hb hbox hg; have hnb46 := NB20023_20001.out; have hnc46 := NB20001_20023.out; have hnb47 := NB20023_20017.out; have hnc47 := NB20017_20023.out; obtain ⟨hcz48_0, hcz48_1, hcz48_2, hcz48_3⟩ := cs4 BK20023.out; obtain ⟨hfz48_0, hfz48_1, hfz48_2, hfz48_3⟩ := fs4 BK20023.out; have hnb49 := NB20017_20001.out; have hnc49 := NB20001_20017.out; obtain ⟨hcz50_0, hcz50_1, hcz50_2⟩ := cs3 BK20017.out; obtain ⟨hfz50_0, hfz50_1, hfz50_2⟩ := fs3 BK20017.out; obtain ⟨Ao51, co51, eo51⟩ := Kd.R_slice HO_20018001.out; subst eo51; obtain ⟨Ao52, co52, eo52⟩ := Kd.N_slice HO_20018002.out; subst eo52) | ((with_reducible refine gate_callee (f := 20) rfl ?_); refine goesL_ (some 65) rfl rfl Try.func20 (by kernel_rfl) rfl #[.agg #[.int .i64 x20018000_1, .slice Ao51 x20018001_1.length co51, .slice Ao52 x20018002_1.length co52], .agg #[.int .i64 ((rd_T25 t20002 (ji31)).f0), .int .i64 ((rd_T25 t20002 (ji31)).f1), .slice A20022_2 ((rd_T25 t20002 (ji31)).f2).length c20022_2, .int .u64 ((rd_T25 t20002 (ji31)).f3)]] rfl (by (try simp only [List.map_toArray, List.map_cons, List.map_nil]); first | done | (simp only [hji31]; rfl) | rfl | (simp only [List.length_drop, List.length_take]; rfl)) ?_; (with_reducible refine (upload_Receive.calls kj25 x20018000_1 _ _ x20018001_1 _ _ x20018002_1 ((rd_T25 t20002 (ji31)).f0) ((rd_T25 t20002 (ji31)).f1) _ _ ((rd_T25 t20002 (ji31)).f2) ((rd_T25 t20002 (ji31)).f3) t20024 t20025 t20028 t20031 _ ?side1 ?side2 ?side3 ?side4 ?side5 ?side6 A34.out).mono ?_); (case side1 => refine (Kd.R_reads' (e := 5) (base := w.heap.size) (ok := fun k_ => True) (n := x20018001_1.length) (c := co51) ?_).2.2; exact (rz (Kd.R_mono (Kd.R_far (p := ⟨gb20023, 3, none⟩) (Kd.R_far (p := ⟨gb20023, 2, none⟩) (Kd.R_far (p := ⟨gb20023, 1, none⟩) (Kd.R_far (p := ⟨gb20023, 0, none⟩) (Kd.R_types HO_20018001.out BK20023.out (by decide)) (fun _ hk => hk.2) (.int .i64 ((rd_T25 t20002 (ji31)).f0))) (fun _ hk => hk.2) (.int .i64 ((rd_T25 t20002 (ji31)).f1))) (fun _ hk => hk.2) (.slice A20022_2 ((rd_T25 t20002 (ji31)).f2).length c20022_2)) (fun _ hk => hk.2) (.int .u64 ((rd_T25 t20002 (ji31)).f3))) (fun _ h_ => h_.1)))); (case side2 => exact (Kd.R_reads' HO_20018001.out).2.1); (case side3 => refine (Kd.N_reads' (e := 25) (base := w.heap.size) (ok := fun k_ => ((some k_ ≠ (.slice (some ad20022) t20002.length co44 : Value).ownBlock ∧ (some k_ ≠ (v20019 : Value).ownBlock ∧ (some k_ ≠ (.slice Ao51 x20018001_1.length co51 : Value).ownBlock ∧ (k_ ≠ gb20001 ∧ k_ ≠ gb20017)))) ∧ k_ ≠ gb20023)) (n := x20018002_1.length) (c := co52) ?_).2.2; exact (nz (Kd.N_mono (Kd.N_far (p := ⟨gb20023, 3, none⟩) (Kd.N_far (p := ⟨gb20023, 2, none⟩) (Kd.N_far (p := ⟨gb20023, 1, none⟩) (Kd.N_far (p := ⟨gb20023, 0, none⟩) (Kd.N_mono HO_20018002.out (fun k_ hk => (⟨hk, hk.2⟩ : _ ∧ k_ ≠ gb20023))) (fun _ hk => hk.2) (.int .i64 ((rd_T25 t20002 (ji31)).f0))) (fun _ hk => hk.2) (.int .i64 ((rd_T25 t20002 (ji31)).f1))) (fun _ hk => hk.2) (.slice A20022_2 ((rd_T25 t20002 (ji31)).f2).length c20022_2)) (fun _ hk => hk.2) (.int .u64 ((rd_T25 t20002 (ji31)).f3))) (fun _ h_ => h_.1)))); (case side4 => exact (Kd.N_reads' HO_20018002.out).2.1); (case side5 => repeat (first | exact ((Kd.V_reads' (vz (Kd.V_mono (Kd.V_far (p := ⟨gb20023, 3, none⟩) (Kd.V_far (p := ⟨gb20023, 2, none⟩) (Kd.V_far (p := ⟨gb20023, 1, none⟩) (Kd.V_far (p := ⟨gb20023, 0, none⟩) (Kd.V_mono HL20022_2.out (fun k_ hk => (⟨hk, hk.2⟩ : _ ∧ k_ ≠ gb20023))) (fun _ hk => hk.2) (.int .i64 ((rd_T25 t20002 (ji31)).f0))) (fun _ hk => hk.2) (.int .i64 ((rd_T25 t20002 (ji31)).f1))) (fun _ hk => hk.2) (.slice A20022_2 ((rd_T25 t20002 (ji31)).f2).length c20022_2)) (fun _ hk => hk.2) (.int .u64 ((rd_T25 t20002 (ji31)).f3))) (fun _ h_ => h_.1)))).2.2) | (with_reducible refine Kd.C_alloc ?_ _) | (with_reducible refine Kd.C_drewN ?_ _) | (with_reducible refine Kd.C_drew ?_))); (case side6 => exact HC20022_2.out); rintro e w53 ⟨v20026, v20029, rfl, ho0, ho1, hb⟩; refine ⟨_, rfl, ?_⟩; replace HO_8 := am (Kd.V_mono (Kd.V_told (Kd.V_told (Kd.V_old (vz (Kd.V_mono (Kd.V_far (p := ⟨gb20023, 3, none⟩) (Kd.V_far (p := ⟨gb20023, 2, none⟩) (Kd.V_far (p := ⟨gb20023, 1, none⟩) (Kd.V_far (p := ⟨gb20023, 0, none⟩) (Kd.V_mono HO_8.out (fun k_ hk => (⟨hk, hk.2⟩ : _ ∧ k_ ≠ gb20023))) (fun _ hk => hk.2) (.int .i64 ((rd_T25 t20002 (ji31)).f0))) (fun _ hk => hk.2) (.int .i64 ((rd_T25 t20002 (ji31)).f1))) (fun _ hk => hk.2) (.slice A20022_2 ((rd_T25 t20002 (ji31)).f2).length c20022_2)) (fun _ hk => hk.2) (.int .u64 ((rd_T25 t20002 (ji31)).f3))) (fun _ h_ => h_.1))) hb) (Kd.R_base ho0)) (Kd.S_base ho1)) (fun _ h_ => h_.1)); have HO20027 := am (Kd.R_lower (Kd.R_new' ho0 (Kd.R_lt (rz (Kd.R_mono (Kd.R_far (p := ⟨gb20023, 3, none⟩) (Kd.R_far (p := ⟨gb20023, 2, none⟩) (Kd.R_far (p := ⟨gb20023, 1, none⟩) (Kd.R_far (p := ⟨gb20023, 0, none⟩) (Kd.R_types HO_20018001.out BK20023.out (by decide)) (fun _ hk => hk.2) (.int .i64 ((rd_T25 t20002 (ji31)).f0))) (fun _ hk => hk.2) (.int .i64 ((rd_T25 t20002 (ji31)).f1))) (fun _ hk => hk.2) (.slice A20022_2 ((rd_T25 t20002 (ji31)).f2).length c20022_2)) (fun _ hk => hk.2) (.int .u64 ((rd_T25 t20002 (ji31)).f3))) (fun _ h_ => h_.1))))) (below_size (hz3 HB.out GE20001.out GE20017.out GE20023.out))); have HO20030 := am (Kd.N_lower (Kd.N_mono (ok' := fun k_ => some k_ ≠ (v20026 : Value).ownBlock ∧ some k_ ≠ (.slice (some ad20022) t20002.length co44 : Value).ownBlock ∧ some k_ ≠ (v20019 : Value).ownBlock ∧ some k_ ≠ (.slice Ao51 x20018001_1.length co51 : Value).ownBlock ∧ some k_ ≠ (.slice Ao52 x20018002_1.length co52 : Value).ownBlock ∧ k_ ≠ gb20001 ∧ k_ ≠ gb20017 ∧ k_ ≠ gb20023) (Kd.S_N (Kd.S_bound ho1)) (fun k_ hk_ => ⟨hk_.1, (Kd.fresh' (Kd.N_lt (nz (Kd.N_mono (Kd.N_far (p := ⟨gb20023, 3, none⟩) (Kd.N_far (p := ⟨gb20023, 2, none⟩) (Kd.N_far (p := ⟨gb20023, 1, none⟩) (Kd.N_far (p := ⟨gb20023, 0, none⟩) (Kd.N_mono HO_7.out (fun k_ hk => (⟨hk, hk.2⟩ : _ ∧ k_ ≠ gb20023))) (fun _ hk => hk.2) (.int .i64 ((rd_T25 t20002 (ji31)).f0))) (fun _ hk => hk.2) (.int .i64 ((rd_T25 t20002 (ji31)).f1))) (fun _ hk => hk.2) (.slice A20022_2 ((rd_T25 t20002 (ji31)).f2).length c20022_2)) (fun _ hk => hk.2) (.int .u64 ((rd_T25 t20002 (ji31)).f3))) (fun _ h_ => h_.1)))) k_ hk_.2.1), (Kd.fresh' (Kd.R_lt (rz (Kd.R_mono (Kd.R_far (p := ⟨gb20023, 3, none⟩) (Kd.R_far (p := ⟨gb20023, 2, none⟩) (Kd.R_far (p := ⟨gb20023, 1, none⟩) (Kd.R_far (p := ⟨gb20023, 0, none⟩) (Kd.R_types HO_12.out BK20023.out (by decide)) (fun _ hk => hk.2) (.int .i64 ((rd_T25 t20002 (ji31)).f0))) (fun _ hk => hk.2) (.int .i64 ((rd_T25 t20002 (ji31)).f1))) (fun _ hk => hk.2) (.slice A20022_2 ((rd_T25 t20002 (ji31)).f2).length c20022_2)) (fun _ hk => hk.2) (.int .u64 ((rd_T25 t20002 (ji31)).f3))) (fun _ h_ => h_.1)))) k_ hk_.2.1), (Kd.fresh' (Kd.R_lt (rz (Kd.R_mono (Kd.R_far (p := ⟨gb20023, 3, none⟩) (Kd.R_far (p := ⟨gb20023, 2, none⟩) (Kd.R_far (p := ⟨gb20023, 1, none⟩) (Kd.R_far (p := ⟨gb20023, 0, none⟩) (Kd.R_types HO_20018001.out BK20023.out (by decide)) (fun _ hk => hk.2) (.int .i64 ((rd_T25 t20002 (ji31)).f0))) (fun _ hk => hk.2) (.int .i64 ((rd_T25 t20002 (ji31)).f1))) (fun _ hk => hk.2) (.slice A20022_2 ((rd_T25 t20002 (ji31)).f2).length c20022_2)) (fun _ hk => hk.2) (.int .u64 ((rd_T25 t20002 (ji31)).f3))) (fun _ h_ => h_.1)))) k_ hk_.2.1), (Kd.fresh' (Kd.N_lt (nz (Kd.N_mono (Kd.N_far (p := ⟨gb20023, 3, none⟩) (Kd.N_far (p := ⟨gb20023, 2, none⟩) (Kd.N_far (p := ⟨gb20023, 1, none⟩) (Kd.N_far (p := ⟨gb20023, 0, none⟩) (Kd.N_mono HO_20018002.out (fun k_ hk => (⟨hk, hk.2⟩ : _ ∧ k_ ≠ gb20023))) (fun _ hk => hk.2) (.int .i64 ((rd_T25 t20002 (ji31)).f0))) (fun _ hk => hk.2) (.int .i64 ((rd_T25 t20002 (ji31)).f1))) (fun _ hk => hk.2) (.slice A20022_2 ((rd_T25 t20002 (ji31)).f2).length c20022_2)) (fun _ hk => hk.2) (.int .u64 ((rd_T25 t20002 (ji31)).f3))) (fun _ h_ => h_.1)))) k_ hk_.2.1), (Kd.freshB (g := gb20001) (o := .cells #[.int .u8 a1_0, .int .u8 a1_1] 41 (0, 0)) (bf1 NB20001_20023.out BK20001.out) k_ hk_.2.1), (Kd.freshB (g := gb20017) (o := .cells #[.int .i64 x20018000_1, .slice Ao51 x20018001_1.length co51, .slice Ao52 x20018002_1.length co52] 34 (0, 0)) (bf1 NB20017_20023.out BK20017.out) k_ hk_.2.1), (Kd.freshB (g := gb20023) (o := .cells #[.int .i64 ((rd_T25 t20002 (ji31)).f0), .int .i64 ((rd_T25 t20002 (ji31)).f1), .slice A20022_2 ((rd_T25 t20002 (ji31)).f2).length c20022_2, .int .u64 ((rd_T25 t20002 (ji31)).f3)] 25 (0, 0)) (by (with_reducible repeat (first | refine blk_drewN ?_ _ | refine blk_drew ?_ | refine blk_alloc ?_ _)); refine blk_put (cs := #[.int .i64 ((rd_T25 t20002 (ji31)).f0), .int .i64 ((rd_T25 t20002 (ji31)).f1), .slice A20022_2 ((rd_T25 t20002 (ji31)).f2).length c20022_2, .int .u64 0]) ?_ 3 _ rfl; (with_reducible repeat (first | refine blk_drewN ?_ _ | refine blk_drew ?_ | refine blk_alloc ?_ _)); refine blk_put (cs := #[.int .i64 ((rd_T25 t20002 (ji31)).f0), .int .i64 ((rd_T25 t20002 (ji31)).f1), .slice none 0 0, .int .u64 0]) ?_ 2 _ rfl; (with_reducible repeat (first | refine blk_drewN ?_ _ | refine blk_drew ?_ | refine blk_alloc ?_ _)); refine blk_put (cs := #[.int .i64 ((rd_T25 t20002 (ji31)).f0), .int .i64 0, .slice none 0 0, .int .u64 0]) ?_ 1 _ rfl; (with_reducible repeat (first | refine blk_drewN ?_ _ | refine blk_drew ?_ | refine blk_alloc ?_ _)); refine blk_put (cs := #[.int .i64 0, .int .i64 0, .slice none 0 0, .int .u64 0]) ?_ 0 _ rfl; (with_reducible repeat (first | refine blk_drewN ?_ _ | refine blk_drew ?_ | refine blk_alloc ?_ _)); exact BK20023.out) k_ hk_.2.1)⟩)) (below_size (hz3 HB.out GE20001.out GE20017.out GE20023.out))); replace HO_7 := am (Kd.N_mono (Kd.N_told (Kd.N_told (Kd.N_old (nz (Kd.N_mono (Kd.N_far (p := ⟨gb20023, 3, none⟩) (Kd.N_far (p := ⟨gb20023, 2, none⟩) (Kd.N_far (p := ⟨gb20023, 1, none⟩) (Kd.N_far (p := ⟨gb20023, 0, none⟩) (Kd.N_mono HO_7.out (fun k_ hk => (⟨hk, hk.2⟩ : _ ∧ k_ ≠ gb20023))) (fun _ hk => hk.2) (.int .i64 ((rd_T25 t20002 (ji31)).f0))) (fun _ hk => hk.2) (.int .i64 ((rd_T25 t20002 (ji31)).f1))) (fun _ hk => hk.2) (.slice A20022_2 ((rd_T25 t20002 (ji31)).f2).length c20022_2)) (fun _ hk => hk.2) (.int .u64 ((rd_T25 t20002 (ji31)).f3))) (fun _ h_ => h_.1))) hb) (Kd.R_base ho0)) (Kd.S_base ho1)) (fun _ h_ => h_.1)); replace HO_12 := am (Kd.R_below (rz (Kd.R_mono (Kd.R_far (p := ⟨gb20023, 3, none⟩) (Kd.R_far (p := ⟨gb20023, 2, none⟩) (Kd.R_far (p := ⟨gb20023, 1, none⟩) (Kd.R_far (p := ⟨gb20023, 0, none⟩) (Kd.R_types HO_12.out BK20023.out (by decide)) (fun _ hk => hk.2) (.int .i64 ((rd_T25 t20002 (ji31)).f0))) (fun _ hk => hk.2) (.int .i64 ((rd_T25 t20002 (ji31)).f1))) (fun _ hk => hk.2) (.slice A20022_2 ((rd_T25 t20002 (ji31)).f2).length c20022_2)) (fun _ hk => hk.2) (.int .u64 ((rd_T25 t20002 (ji31)).f3))) (fun _ h_ => h_.1))) hb); replace HO_20018001 := am (Kd.R_elder' (rz (Kd.R_mono (Kd.R_far (p := ⟨gb20023, 3, none⟩) (Kd.R_far (p := ⟨gb20023, 2, none⟩) (Kd.R_far (p := ⟨gb20023, 1, none⟩) (Kd.R_far (p := ⟨gb20023, 0, none⟩) (Kd.R_types HO_20018001.out BK20023.out (by decide)) (fun _ hk => hk.2) (.int .i64 ((rd_T25 t20002 (ji31)).f0))) (fun _ hk => hk.2) (.int .i64 ((rd_T25 t20002 (ji31)).f1))) (fun _ hk => hk.2) (.slice A20022_2 ((rd_T25 t20002 (ji31)).f2).length c20022_2)) (fun _ hk => hk.2) (.int .u64 ((rd_T25 t20002 (ji31)).f3))) (fun _ h_ => h_.1))) (Kd.R_base ho0) hb); replace HO_20018002 := am (Kd.N_mono (Kd.N_told (Kd.N_told (Kd.N_old (nz (Kd.N_mono (Kd.N_far (p := ⟨gb20023, 3, none⟩) (Kd.N_far (p := ⟨gb20023, 2, none⟩) (Kd.N_far (p := ⟨gb20023, 1, none⟩) (Kd.N_far (p := ⟨gb20023, 0, none⟩) (Kd.N_mono HO_20018002.out (fun k_ hk => (⟨hk, hk.2⟩ : _ ∧ k_ ≠ gb20023))) (fun _ hk => hk.2) (.int .i64 ((rd_T25 t20002 (ji31)).f0))) (fun _ hk => hk.2) (.int .i64 ((rd_T25 t20002 (ji31)).f1))) (fun _ hk => hk.2) (.slice A20022_2 ((rd_T25 t20002 (ji31)).f2).length c20022_2)) (fun _ hk => hk.2) (.int .u64 ((rd_T25 t20002 (ji31)).f3))) (fun _ h_ => h_.1))) hb) (Kd.R_base ho0)) (Kd.S_base ho1)) (fun _ h_ => h_.1)); replace BK20001 := am (blk_below (bf1 NB20001_20023.out BK20001.out) hb); replace BK20017 := am (blk_below (bf1 NB20017_20023.out BK20017.out) hb); replace HR20022_2 := am (Kd.C_below ((Kd.V_reads' (vz (Kd.V_mono (Kd.V_far (p := ⟨gb20023, 3, none⟩) (Kd.V_far (p := ⟨gb20023, 2, none⟩) (Kd.V_far (p := ⟨gb20023, 1, none⟩) (Kd.V_far (p := ⟨gb20023, 0, none⟩) (Kd.V_mono HL20022_2.out (fun k_ hk => (⟨hk, hk.2⟩ : _ ∧ k_ ≠ gb20023))) (fun _ hk => hk.2) (.int .i64 ((rd_T25 t20002 (ji31)).f0))) (fun _ hk => hk.2) (.int .i64 ((rd_T25 t20002 (ji31)).f1))) (fun _ hk => hk.2) (.slice A20022_2 ((rd_T25 t20002 (ji31)).f2).length c20022_2)) (fun _ hk => hk.2) (.int .u64 ((rd_T25 t20002 (ji31)).f3))) (fun _ h_ => h_.1)))).2.2) hb); replace HL20022_2 := am (Kd.V_mono (Kd.V_told (Kd.V_told (Kd.V_old (vz (Kd.V_mono (Kd.V_far (p := ⟨gb20023, 3, none⟩) (Kd.V_far (p := ⟨gb20023, 2, none⟩) (Kd.V_far (p := ⟨gb20023, 1, none⟩) (Kd.V_far (p := ⟨gb20023, 0, none⟩) (Kd.V_mono HL20022_2.out (fun k_ hk => (⟨hk, hk.2⟩ : _ ∧ k_ ≠ gb20023))) (fun _ hk => hk.2) (.int .i64 ((rd_T25 t20002 (ji31)).f0))) (fun _ hk => hk.2) (.int .i64 ((rd_T25 t20002 (ji31)).f1))) (fun _ hk => hk.2) (.slice A20022_2 ((rd_T25 t20002 (ji31)).f2).length c20022_2)) (fun _ hk => hk.2) (.int .u64 ((rd_T25 t20002 (ji31)).f3))) (fun _ h_ => h_.1))) hb) (Kd.R_base ho0)) (Kd.S_base ho1)) (fun _ h_ => h_.1)); replace BK20023 := am (blk_below (g := gb20023) (o := .cells #[.int .i64 ((rd_T25 t20002 (ji31)).f0), .int .i64 ((rd_T25 t20002 (ji31)).f1), .slice A20022_2 ((rd_T25 t20002 (ji31)).f2).length c20022_2, .int .u64 ((rd_T25 t20002 (ji31)).f3)] 25 (0, 0)) (by (with_reducible repeat (first | refine blk_drewN ?_ _ | refine blk_drew ?_ | refine blk_alloc ?_ _)); refine blk_put (cs := #[.int .i64 ((rd_T25 t20002 (ji31)).f0), .int .i64 ((rd_T25 t20002 (ji31)).f1), .slice A20022_2 ((rd_T25 t20002 (ji31)).f2).length c20022_2, .int .u64 0]) ?_ 3 _ rfl; (with_reducible repeat (first | refine blk_drewN ?_ _ | refine blk_drew ?_ | refine blk_alloc ?_ _)); refine blk_put (cs := #[.int .i64 ((rd_T25 t20002 (ji31)).f0), .int .i64 ((rd_T25 t20002 (ji31)).f1), .slice none 0 0, .int .u64 0]) ?_ 2 _ rfl; (with_reducible repeat (first | refine blk_drewN ?_ _ | refine blk_drew ?_ | refine blk_alloc ?_ _)); refine blk_put (cs := #[.int .i64 ((rd_T25 t20002 (ji31)).f0), .int .i64 0, .slice none 0 0, .int .u64 0]) ?_ 1 _ rfl; (with_reducible repeat (first | refine blk_drewN ?_ _ | refine blk_drew ?_ | refine blk_alloc ?_ _)); refine blk_put (cs := #[.int .i64 0, .int .i64 0, .slice none 0 0, .int .u64 0]) ?_ 0 _ rfl; (with_reducible repeat (first | refine blk_drewN ?_ _ | refine blk_drew ?_ | refine blk_alloc ?_ _)); exact BK20023.out) hb); replace HB := am (below_step (hz3 HB.out GE20001.out GE20017.out GE20023.out) hb); (try clear hb); (try clear hb2); (try clear hk); (try clear hi); (try clear ho0); (try clear ho1)) | ((with_reducible refine gate_dst (N := 16) rfl ?_); (try (refine gate_guard (by rfl) ?_; dsimp only)); refine box_event ?hg (N := 16) ?hd (cs := #[.int .i64 0, .slice none 0 0, .slice none 0 0]) (t := 34) ?hr ?_; (case hd => rfl); (case hg => rfl); (case hr => exact gz); intro gb20032 hg w54 hbox hb; replace HO_7 := am (Kd.N_below (Kd.N_elderB (nz HO_7.out) gb20032 (Nat.le_of_eq hg.symm)) hb); replace HO_8 := am (Kd.V_below (Kd.V_elderB (vz HO_8.out) gb20032 (Nat.le_of_eq hg.symm)) hb); replace HO_12 := am (Kd.R_below (rz HO_12.out) hb); replace HO_20018001 := am (Kd.R_below (rz HO_20018001.out) hb); replace HO_20018002 := am (Kd.N_below (Kd.N_elderB (nz HO_20018002.out) gb20032 (Nat.le_of_eq hg.symm)) hb); replace HL20022_2 := am (Kd.V_below (Kd.V_elderB (vz HL20022_2.out) gb20032 (Nat.le_of_eq hg.symm)) hb); replace HO20027 := am (Kd.R_below (rz HO20027.out) hb); replace HO20030 := am (Kd.N_below (Kd.N_elderB (nz HO20030.out) gb20032 (Nat.le_of_eq hg.symm)) hb); replace HR20022_2 := am (Kd.C_below (cz HR20022_2.out) hb); have BK20032 := am (hbox); have GW20032 := am ((bs hg (hz3 HB.out GE20001.out GE20017.out GE20023.out) : w.heap.size ≤ gb20032)); have GE20032 := am ((bs hg (hz3 HB.out GE20001.out GE20017.out GE20023.out) : w.heap.size ≤ gb20032)); replace HB := am (below_step (hz3 HB.out GE20001.out GE20017.out GE20023.out) hb); have NB20001_20032 := am ((nl hg (bz BK20001.out) : gb20001 ≠ gb20032)); have NB20032_20001 := am ((ng hg (bz BK20001.out) : gb20032 ≠ gb20001)); replace BK20001 := am (blk_below (bz BK20001.out) hb); have NB20017_20032 := am ((nl hg (bz BK20017.out) : gb20017 ≠ gb20032)); have NB20032_20017 := am ((ng hg (bz BK20017.out) : gb20032 ≠ gb20017)); replace BK20017 := am (blk_below (bz BK20017.out) hb); have NB20023_20032 := am ((nl hg (bz BK20023.out) : gb20023 ≠ gb20032)); have NB20032_20023 := am ((ng hg (bz BK20023.out) : gb20032 ≠ gb20023)); replace BK20023 := am (blk_below (bz BK20023.out) hb); clear hb hbox hg; have hnb55 := NB20032_20001.out; have hnc55 := NB20001_20032.out; have hnb56 := NB20032_20017.out; have hnc56 := NB20017_20032.out; have hnb57 := NB20032_20023.out; have hnc57 := NB20023_20032.out; obtain ⟨hcz58_0, hcz58_1, hcz58_2⟩ := cs3 BK20032.out; obtain ⟨hfz58_0, hfz58_1, hfz58_2⟩ := fs3 BK20032.out; obtain ⟨Ao59, co59, eo59⟩ := Kd.R_slice HO20027.out; subst eo59; obtain ⟨Ao60, co60, eo60⟩ := Kd.N_slice HO20030.out; subst eo60))
          have n0_ : Aside0 (Kd.N k25 25 (((w54.setCell ⟨gb20032, 0, none⟩ (.int .i64 t20024)).setCell ⟨gb20032, 1, none⟩ (.slice Ao59 t20025.length co59)).setCell ⟨gb20032, 2, none⟩ (.slice Ao60 t20028.length co60)) w.heap.size (fun k_ => some k_ ≠ (v20019 : Value).ownBlock ∧ some k_ ≠ (.slice Ao51 x20018001_1.length co51 : Value).ownBlock ∧ some k_ ≠ (.slice Ao52 x20018002_1.length co52 : Value).ownBlock ∧ some k_ ≠ (.slice Ao59 t20025.length co59 : Value).ownBlock ∧ some k_ ≠ (.slice Ao60 t20028.length co60 : Value).ownBlock ∧ k_ ≠ gb20001 ∧ k_ ≠ gb20017 ∧ k_ ≠ gb20023 ∧ k_ ≠ gb20032) (.slice (some ad20022) t20002.length co44) t20002) := ⟨by (with_reducible repeat (first | apply Kd.N_alloc | apply Kd.N_drewN | apply Kd.N_drew)); exact Kd.N_mono (Kd.N_far (p := ⟨gb20032, 2, none⟩) (Kd.N_far (p := ⟨gb20032, 1, none⟩) (Kd.N_far (p := ⟨gb20032, 0, none⟩) (Kd.N_mono HO_7.out (fun k_ hk => (⟨hk, hk.2⟩ : _ ∧ k_ ≠ gb20032))) (fun _ hk => hk.2) (.int .i64 t20024)) (fun _ hk => hk.2) (.slice Ao59 t20025.length co59)) (fun _ hk => hk.2) (.slice Ao60 t20028.length co60)) (fun _ hk => ⟨hk.1.1.1.1.1.1, ⟨hk.1.1.1.1.1.2.1, ⟨hk.1.1.1.1.1.2.2.1, ⟨hk.1.1.1.2, ⟨hk.1.1.2, ⟨hk.1.1.1.1.1.2.2.2.1, ⟨hk.1.1.1.1.1.2.2.2.2, ⟨hk.1.1.1.1.2, hk.1.2⟩⟩⟩⟩⟩⟩⟩⟩)⟩
          have n1_ : Aside0 (Kd.V (Kd.int .u8) 5 (((w54.setCell ⟨gb20032, 0, none⟩ (.int .i64 t20024)).setCell ⟨gb20032, 1, none⟩ (.slice Ao59 t20025.length co59)).setCell ⟨gb20032, 2, none⟩ (.slice Ao60 t20028.length co60)) w.heap.size (fun k_ => some k_ ≠ (.slice (some ad20022) t20002.length co44 : Value).ownBlock ∧ some k_ ≠ (v20019 : Value).ownBlock ∧ some k_ ≠ (.slice Ao51 x20018001_1.length co51 : Value).ownBlock ∧ some k_ ≠ (.slice Ao52 x20018002_1.length co52 : Value).ownBlock ∧ some k_ ≠ (.slice Ao59 t20025.length co59 : Value).ownBlock ∧ some k_ ≠ (.slice Ao60 t20028.length co60 : Value).ownBlock ∧ k_ ≠ gb20001 ∧ k_ ≠ gb20017 ∧ k_ ≠ gb20023 ∧ k_ ≠ gb20032) (.slice Ao20 t20005.length co20) t20005) := ⟨by (with_reducible repeat (first | apply Kd.V_alloc | apply Kd.V_drewN | apply Kd.V_drew)); exact Kd.V_mono (Kd.V_far (p := ⟨gb20032, 2, none⟩) (Kd.V_far (p := ⟨gb20032, 1, none⟩) (Kd.V_far (p := ⟨gb20032, 0, none⟩) (Kd.V_mono HO_8.out (fun k_ hk => (⟨hk, hk.2⟩ : _ ∧ k_ ≠ gb20032))) (fun _ hk => hk.2) (.int .i64 t20024)) (fun _ hk => hk.2) (.slice Ao59 t20025.length co59)) (fun _ hk => hk.2) (.slice Ao60 t20028.length co60)) (fun _ hk => ⟨hk.1.1.1.1.1.1, ⟨hk.1.1.1.1.1.2.1, ⟨hk.1.1.1.1.1.2.2.1, ⟨hk.1.1.1.1.1.2.2.2.1, ⟨hk.1.1.1.2, ⟨hk.1.1.2, ⟨hk.1.1.1.1.1.2.2.2.2.1, ⟨hk.1.1.1.1.1.2.2.2.2.2, ⟨hk.1.1.1.1.2, hk.1.2⟩⟩⟩⟩⟩⟩⟩⟩⟩)⟩
          have n2_ : Aside0 (Kd.R Kd.bool 4 (((w54.setCell ⟨gb20032, 0, none⟩ (.int .i64 t20024)).setCell ⟨gb20032, 1, none⟩ (.slice Ao59 t20025.length co59)).setCell ⟨gb20032, 2, none⟩ (.slice Ao60 t20028.length co60)) w.heap.size (fun _ => True) v20019 x12_1) := ⟨by (with_reducible repeat (first | apply Kd.R_alloc | apply Kd.R_drewN | apply Kd.R_drew)); exact Kd.R_mono (rfg3 HO_12.out BK20032.out) (fun _ hk => trivial)⟩
          have n3_ : Aside0 (Kd.R (Kd.int .u8) 5 (((w54.setCell ⟨gb20032, 0, none⟩ (.int .i64 t20024)).setCell ⟨gb20032, 1, none⟩ (.slice Ao59 t20025.length co59)).setCell ⟨gb20032, 2, none⟩ (.slice Ao60 t20028.length co60)) w.heap.size (fun k_ => some k_ ≠ (.slice Ao59 t20025.length co59 : Value).ownBlock) (.slice Ao51 x20018001_1.length co51) x20018001_1) := ⟨by (with_reducible repeat (first | apply Kd.R_alloc | apply Kd.R_drewN | apply Kd.R_drew)); exact Kd.R_mono (rfg3 HO_20018001.out BK20032.out) (fun _ hk => hk.1.2)⟩
          have n4_ : Aside0 (Kd.N k25 25 (((w54.setCell ⟨gb20032, 0, none⟩ (.int .i64 t20024)).setCell ⟨gb20032, 1, none⟩ (.slice Ao59 t20025.length co59)).setCell ⟨gb20032, 2, none⟩ (.slice Ao60 t20028.length co60)) w.heap.size (fun k_ => some k_ ≠ (.slice (some ad20022) t20002.length co44 : Value).ownBlock ∧ some k_ ≠ (v20019 : Value).ownBlock ∧ some k_ ≠ (.slice Ao51 x20018001_1.length co51 : Value).ownBlock ∧ some k_ ≠ (.slice Ao59 t20025.length co59 : Value).ownBlock ∧ some k_ ≠ (.slice Ao60 t20028.length co60 : Value).ownBlock ∧ k_ ≠ gb20001 ∧ k_ ≠ gb20017 ∧ k_ ≠ gb20023 ∧ k_ ≠ gb20032) (.slice Ao52 x20018002_1.length co52) x20018002_1) := ⟨by (with_reducible repeat (first | apply Kd.N_alloc | apply Kd.N_drewN | apply Kd.N_drew)); exact Kd.N_mono (Kd.N_far (p := ⟨gb20032, 2, none⟩) (Kd.N_far (p := ⟨gb20032, 1, none⟩) (Kd.N_far (p := ⟨gb20032, 0, none⟩) (Kd.N_mono HO_20018002.out (fun k_ hk => (⟨hk, hk.2⟩ : _ ∧ k_ ≠ gb20032))) (fun _ hk => hk.2) (.int .i64 t20024)) (fun _ hk => hk.2) (.slice Ao59 t20025.length co59)) (fun _ hk => hk.2) (.slice Ao60 t20028.length co60)) (fun _ hk => ⟨hk.1.1.1.1.1.1, ⟨hk.1.1.1.1.1.2.1, ⟨hk.1.1.1.1.1.2.2.1, ⟨hk.1.1.1.2, ⟨hk.1.1.2, ⟨hk.1.1.1.1.1.2.2.2.1, ⟨hk.1.1.1.1.1.2.2.2.2, ⟨hk.1.1.1.1.2, hk.1.2⟩⟩⟩⟩⟩⟩⟩⟩)⟩
          have n5_ : Aside0 (Kd.V (Kd.int .u8) 5 (((w54.setCell ⟨gb20032, 0, none⟩ (.int .i64 t20024)).setCell ⟨gb20032, 1, none⟩ (.slice Ao59 t20025.length co59)).setCell ⟨gb20032, 2, none⟩ (.slice Ao60 t20028.length co60)) w.heap.size (fun k_ => some k_ ≠ (.slice (some ad20022) t20002.length co44 : Value).ownBlock ∧ some k_ ≠ (v20019 : Value).ownBlock ∧ some k_ ≠ (.slice Ao51 x20018001_1.length co51 : Value).ownBlock ∧ some k_ ≠ (.slice Ao52 x20018002_1.length co52 : Value).ownBlock ∧ some k_ ≠ (.slice Ao59 t20025.length co59 : Value).ownBlock ∧ some k_ ≠ (.slice Ao60 t20028.length co60 : Value).ownBlock ∧ k_ ≠ gb20001 ∧ k_ ≠ gb20017 ∧ k_ ≠ gb20023 ∧ k_ ≠ gb20032) (.slice A20022_2 ((rd_T25 t20002 (ji31)).f2).length c20022_2) ((rd_T25 t20002 (ji31)).f2)) := ⟨by (with_reducible repeat (first | apply Kd.V_alloc | apply Kd.V_drewN | apply Kd.V_drew)); exact Kd.V_mono (Kd.V_far (p := ⟨gb20032, 2, none⟩) (Kd.V_far (p := ⟨gb20032, 1, none⟩) (Kd.V_far (p := ⟨gb20032, 0, none⟩) (Kd.V_mono HL20022_2.out (fun k_ hk => (⟨hk, hk.2⟩ : _ ∧ k_ ≠ gb20032))) (fun _ hk => hk.2) (.int .i64 t20024)) (fun _ hk => hk.2) (.slice Ao59 t20025.length co59)) (fun _ hk => hk.2) (.slice Ao60 t20028.length co60)) (fun _ hk => ⟨hk.1.1.1.1.1.2, ⟨hk.1.1.1.1.1.1.1, ⟨hk.1.1.1.1.1.1.2.1, ⟨hk.1.1.1.1.1.1.2.2.1, ⟨hk.1.1.1.2, ⟨hk.1.1.2, ⟨hk.1.1.1.1.1.1.2.2.2.1, ⟨hk.1.1.1.1.1.1.2.2.2.2, ⟨hk.1.1.1.1.2, hk.1.2⟩⟩⟩⟩⟩⟩⟩⟩⟩)⟩
          have n6_ : Aside0 (Kd.R (Kd.int .u8) 5 (((w54.setCell ⟨gb20032, 0, none⟩ (.int .i64 t20024)).setCell ⟨gb20032, 1, none⟩ (.slice Ao59 t20025.length co59)).setCell ⟨gb20032, 2, none⟩ (.slice Ao60 t20028.length co60)) w.heap.size (fun k_ => some k_ ≠ (.slice Ao51 x20018001_1.length co51 : Value).ownBlock) (.slice Ao59 t20025.length co59) t20025) := ⟨by (with_reducible repeat (first | apply Kd.R_alloc | apply Kd.R_drewN | apply Kd.R_drew)); exact Kd.R_mono (rfg3 HO20027.out BK20032.out) (fun _ hk => hk.1.2)⟩
          have n7_ : Aside0 (Kd.N k25 25 (((w54.setCell ⟨gb20032, 0, none⟩ (.int .i64 t20024)).setCell ⟨gb20032, 1, none⟩ (.slice Ao59 t20025.length co59)).setCell ⟨gb20032, 2, none⟩ (.slice Ao60 t20028.length co60)) w.heap.size (fun k_ => some k_ ≠ (.slice (some ad20022) t20002.length co44 : Value).ownBlock ∧ some k_ ≠ (v20019 : Value).ownBlock ∧ some k_ ≠ (.slice Ao51 x20018001_1.length co51 : Value).ownBlock ∧ some k_ ≠ (.slice Ao52 x20018002_1.length co52 : Value).ownBlock ∧ some k_ ≠ (.slice Ao59 t20025.length co59 : Value).ownBlock ∧ k_ ≠ gb20001 ∧ k_ ≠ gb20017 ∧ k_ ≠ gb20023 ∧ k_ ≠ gb20032) (.slice Ao60 t20028.length co60) t20028) := ⟨by (with_reducible repeat (first | apply Kd.N_alloc | apply Kd.N_drewN | apply Kd.N_drew)); exact Kd.N_mono (Kd.N_far (p := ⟨gb20032, 2, none⟩) (Kd.N_far (p := ⟨gb20032, 1, none⟩) (Kd.N_far (p := ⟨gb20032, 0, none⟩) (Kd.N_mono HO20030.out (fun k_ hk => (⟨hk, hk.2⟩ : _ ∧ k_ ≠ gb20032))) (fun _ hk => hk.2) (.int .i64 t20024)) (fun _ hk => hk.2) (.slice Ao59 t20025.length co59)) (fun _ hk => hk.2) (.slice Ao60 t20028.length co60)) (fun _ hk => ⟨hk.1.1.2.1, ⟨hk.1.1.2.2.1, ⟨hk.1.1.2.2.2.1, ⟨hk.1.1.2.2.2.2.1, ⟨hk.1.1.1, ⟨hk.1.1.2.2.2.2.2.1, ⟨hk.1.1.2.2.2.2.2.2.1, ⟨hk.1.1.2.2.2.2.2.2.2, hk.1.2⟩⟩⟩⟩⟩⟩⟩⟩)⟩
          have n8_ : Aside0 ((((w54.setCell ⟨gb20032, 0, none⟩ (.int .i64 t20024)).setCell ⟨gb20032, 1, none⟩ (.slice Ao59 t20025.length co59)).setCell ⟨gb20032, 2, none⟩ (.slice Ao60 t20028.length co60)).heap[gb20001]? = some (.cells #[.int .u8 a1_0, .int .u8 a1_1] 41 (0, 0))) := ⟨bf1 NB20001_20032.out BK20001.out⟩
          have n9_ : Aside0 ((((w54.setCell ⟨gb20032, 0, none⟩ (.int .i64 t20024)).setCell ⟨gb20032, 1, none⟩ (.slice Ao59 t20025.length co59)).setCell ⟨gb20032, 2, none⟩ (.slice Ao60 t20028.length co60)).heap[gb20017]? = some (.cells #[.int .i64 x20018000_1, .slice Ao51 x20018001_1.length co51, .slice Ao52 x20018002_1.length co52] 34 (0, 0))) := ⟨bf1 NB20017_20032.out BK20017.out⟩
          have n10_ : Aside0 ((((w54.setCell ⟨gb20032, 0, none⟩ (.int .i64 t20024)).setCell ⟨gb20032, 1, none⟩ (.slice Ao59 t20025.length co59)).setCell ⟨gb20032, 2, none⟩ (.slice Ao60 t20028.length co60)).heap[gb20023]? = some (.cells #[.int .i64 ((rd_T25 t20002 (ji31)).f0), .int .i64 ((rd_T25 t20002 (ji31)).f1), .slice A20022_2 ((rd_T25 t20002 (ji31)).f2).length c20022_2, .int .u64 ((rd_T25 t20002 (ji31)).f3)] 25 (0, 0))) := ⟨bf1 NB20023_20032.out BK20023.out⟩
          have n11_ : Aside0 ((((w54.setCell ⟨gb20032, 0, none⟩ (.int .i64 t20024)).setCell ⟨gb20032, 1, none⟩ (.slice Ao59 t20025.length co59)).setCell ⟨gb20032, 2, none⟩ (.slice Ao60 t20028.length co60)).heap[gb20032]? = some (.cells #[.int .i64 t20024, .slice Ao59 t20025.length co59, .slice Ao60 t20028.length co60] 34 (0, 0))) := ⟨by (with_reducible repeat (first | refine blk_drewN ?_ _ | refine blk_drew ?_ | refine blk_alloc ?_ _)); refine blk_put (cs := #[.int .i64 t20024, .slice Ao59 t20025.length co59, .slice none 0 0]) ?_ 2 _ rfl; (with_reducible repeat (first | refine blk_drewN ?_ _ | refine blk_drew ?_ | refine blk_alloc ?_ _)); refine blk_put (cs := #[.int .i64 t20024, .slice none 0 0, .slice none 0 0]) ?_ 1 _ rfl; (with_reducible repeat (first | refine blk_drewN ?_ _ | refine blk_drew ?_ | refine blk_alloc ?_ _)); refine blk_put (cs := #[.int .i64 0, .slice none 0 0, .slice none 0 0]) ?_ 0 _ rfl; (with_reducible repeat (first | refine blk_drewN ?_ _ | refine blk_drew ?_ | refine blk_alloc ?_ _)); exact BK20032.out⟩
          have n12_ : Aside0 (Below w.heap.size w (((w54.setCell ⟨gb20032, 0, none⟩ (.int .i64 t20024)).setCell ⟨gb20032, 1, none⟩ (.slice Ao59 t20025.length co59)).setCell ⟨gb20032, 2, none⟩ (.slice Ao60 t20028.length co60))) := ⟨hz4 HB.out GE20001.out GE20017.out GE20023.out GE20032.out⟩
          (try clear HO_7)
          (try clear HO_8)
          (try clear HO_12)
          (try clear HO_20018001)
          (try clear HO_20018002)
          (try clear HL20022_2)
          (try clear HO20027)
          (try clear HO20030)
          (try clear BK20001)
          (try clear BK20017)
          (try clear BK20023)
          (try clear BK20032)
          (try clear HB)
          generalize (((w54.setCell ⟨gb20032, 0, none⟩ (.int .i64 t20024)).setCell ⟨gb20032, 1, none⟩ (.slice Ao59 t20025.length co59)).setCell ⟨gb20032, 2, none⟩ (.slice Ao60 t20028.length co60)) = w61 at n0_ n1_ n2_ n3_ n4_ n5_ n6_ n7_ n8_ n9_ n10_ n11_ n12_ ⊢
          have HO_7 := n0_
          have HO_8 := n1_
          have HO_12 := n2_
          have HO_20018001 := n3_
          have HO_20018002 := n4_
          have HL20022_2 := n5_
          have HO20027 := n6_
          have HO20030 := n7_
          have BK20001 := n8_
          have BK20017 := n9_
          have BK20023 := n10_
          have BK20032 := n11_
          have HB := n12_
          clear n0_ n1_ n2_ n3_ n4_ n5_ n6_ n7_ n8_ n9_ n10_ n11_ n12_
          replace HO_7 := am (Kd.N_drew HO_7.out)
          replace HO_8 := am (Kd.V_drew HO_8.out)
          replace HO_12 := am (Kd.R_drew HO_12.out)
          replace HO_20018001 := am (Kd.R_drew HO_20018001.out)
          replace HO_20018002 := am (Kd.N_drew HO_20018002.out)
          replace HL20022_2 := am (Kd.V_drew HL20022_2.out)
          replace HO20027 := am (Kd.R_drew HO20027.out)
          replace HO20030 := am (Kd.N_drew HO20030.out)
          replace BK20001 := am (blk_drew BK20001.out)
          replace BK20017 := am (blk_drew BK20017.out)
          replace BK20023 := am (blk_drew BK20023.out)
          replace BK20032 := am (blk_drew BK20032.out)
          replace HB := am (below_drew1 HB.out)
          refine start_ (n := 38) (S := fun w' => w'.cell? ⟨gb20032, 0, none⟩ = some (.int .i64 t20024) ∧ w'.cell? ⟨gb20032, 1, none⟩ = some (.slice Ao59 t20025.length co59) ∧ w'.cell? ⟨gb20032, 2, none⟩ = some (.slice Ao60 t20028.length co60) ∧ w'.cell? ⟨gb20017, 0, none⟩ = some (.int .i64 x20018000_1) ∧ w'.cell? ⟨gb20017, 1, none⟩ = some (.slice Ao51 x20018001_1.length co51) ∧ w'.cell? ⟨gb20017, 2, none⟩ = some (.slice Ao52 x20018002_1.length co52)) (ds := []) #[false, false, false, false, false, false, false, false, false, false, false, false, false, false, false, false, false, false, false, false, false, false, false, false, false, false, false, false, false, false, false, false, false, false, false, false, false, false] (by kernel_rfl) rfl rfl ⟨(blk_cell BK20032.out 0).trans rfl, (blk_cell BK20032.out 1).trans rfl, (blk_cell BK20032.out 2).trans rfl, (blk_cell BK20017.out 0).trans rfl, (blk_cell BK20017.out 1).trans rfl, (blk_cell BK20017.out 2).trans rfl⟩ (fun hHeld => ?_); refine with_tabW examboardlaw53_UploadOnce.tab12 examboardlaw53_UploadOnce.bits12 (fun HT_ HW_ => ?_)
          generalize w61.drew = w62 at HO_7 HO_8 HO_12 HO_20018001 HO_20018002 HL20022_2 HO20027 HO20030 BK20001 BK20017 BK20023 BK20032 HB hHeld ⊢
          refine pz 0 68 HT_.out ?_
          refine pz 1 69 HT_.out ?_
          refine pz 2 70 HT_.out ?_
          refine pz 5 73 HT_.out ?_
          refine take_ (i := 3) (N := some 71) (v := ?_) (a' := ?_) #[true, true, true, true, false, true, false, false, false, false, false, false, false, false, false, false, false, false, false, false, false, false, false, false, false, false, false, false, false, false, false, false, false, false, false, false, false, false] rfl rfl (take_ofW HT_.out HW_.out (by kernel_rfl)) (fun _ _ _ h => h) (Or.inl ⟨by rfl, ?_⟩) hHeld ?_ ?_
          rotate_left
          ·
           rintro w' ⟨s0, s1, s2, s3, s4, s5⟩
           go_simp
           with_reducible rfl
          rotate_left
          ·
           simp only [Act.put, List.setIfInBounds_toArray, List.set_cons_zero, List.set_cons_succ, i64_w, i32_w]
           rfl
          refine take_ (i := 6) (N := some 74) (v := ?_) (a' := ?_) #[true, true, true, true, false, true, true, false, false, false, false, false, false, false, false, false, false, false, false, false, false, false, false, false, false, false, false, false, false, false, false, false, false, false, false, false, false, false] rfl rfl (take_ofW HT_.out HW_.out (by kernel_rfl)) (fun _ _ _ h => h) (Or.inl ⟨by rfl, ?_⟩) hHeld ?_ ?_
          rotate_left
          ·
           rintro w' ⟨s0, s1, s2, s3, s4, s5⟩
           go_simp
           with_reducible rfl
          rotate_left
          ·
           simp only [Act.put, List.setIfInBounds_toArray, List.set_cons_zero, List.set_cons_succ, i64_w, i32_w]
           rfl
          refine pz 7 75 HT_.out ?_
          refine oz 4 72 HT_.out (fun K hK => ?_)
          refine goes_ Try.func21 (by kernel_rfl) rfl #[.agg #[.int .i64 t20024, .slice Ao59 t20025.length co59, .slice Ao60 t20028.length co60]] (by rfl) rfl rfl lz ?_
          with_reducible refine (upload_Need.calls t20024 _ _ t20025 _ _ t20028 t20033 _ ?side1 ?side2 ?side3 ?side4 A36.out).mono ?_
          (case side1 => repeat (first | exact (Kd.R_reads' HO20027.out).2.2 | (with_reducible refine Kd.C_alloc ?_ _) | (with_reducible refine Kd.C_drewN ?_ _) | (with_reducible refine Kd.C_drew ?_)))
          (case side2 => exact (Kd.R_reads' HO20027.out).2.1)
          (case side3 => repeat (first | exact (Kd.N_reads' HO20030.out).2.2 | (with_reducible refine Kd.C_alloc ?_ _) | (with_reducible refine Kd.C_drewN ?_ _) | (with_reducible refine Kd.C_drew ?_)))
          (case side4 => exact (Kd.N_reads' HO20030.out).2.1)
          rintro e w63 ⟨rfl, hb⟩
          refine ⟨_, rfl, ?_⟩
          replace HO_7 := am (Kd.N_below (nz HO_7.out) hb)
          replace HO_8 := am (Kd.V_below (vz HO_8.out) hb)
          replace HO_12 := am (Kd.R_below (rz HO_12.out) hb)
          replace HO_20018001 := am (Kd.R_below (rz HO_20018001.out) hb)
          replace HO_20018002 := am (Kd.N_below (nz HO_20018002.out) hb)
          replace HL20022_2 := am (Kd.V_below (vz HL20022_2.out) hb)
          replace HO20027 := am (Kd.R_below (rz HO20027.out) hb)
          replace HO20030 := am (Kd.N_below (nz HO20030.out) hb)
          replace BK20001 := am (blk_below (bz BK20001.out) hb)
          replace BK20017 := am (blk_below (bz BK20017.out) hb)
          replace BK20023 := am (blk_below (bz BK20023.out) hb)
          replace BK20032 := am (blk_below (bz BK20032.out) hb)
          replace HB := am (below_step (hz4 HB.out GE20001.out GE20017.out GE20023.out GE20032.out) hb)
          (try clear hb)
          (try clear hb2)
          (try clear hk)
          (try clear hi)
          have q64 : ((t20025.length : Int) : Int) ≤ ((t20005.length : Int) : Int) := of_decide_eq_true az
          obtain ⟨i064, hi064, _, hsz64, _⟩ := info_parts info5
          have hroom64 : t20005.length ≤ co20 := (Kd.V_reads' HO_8.out).2.1
          have hC64 : Kd.F (Kd.int .u8) _ _ Ao20 t20005.length t20005 := (Kd.V_at (base := w.heap.size) HO_8.out).2.2
          have hcut64 := cut_to (P := Try.prog) 22 5 .i64 Try.underlying22 hi064 Ao20 t20005.length co20 (t20025.length : Int) (of_decide_eq_true az) q64 hroom64
          have hr64 := Kd.F_take (m := ((t20025.length : Int) : Int).toNat) hC64 (by omega)
          have hy64 : y20034.length = ((t20025.length : Int) : Int).toNat := (by rw [Ny20034.out, List.length_take]; omega)
          rw [← Ny20034.out] at hr64
          rw [← hy64] at hcut64
          have HO20038 := am (show Kd.V (Kd.int .u8) 5 _ w.heap.size _ (.slice Ao20 y20034.length co20) y20034 from Kd.V_mk (by omega) hr64)
          have HC20038 := am (show y20034.length ≤ co20 from by omega)
          clear hr64 hC64 hroom64 hi064 hsz64
          have KY64 := am hy64
          clear hy64
          replace q64 := eq_true q64
          refine hK.out _ _ ⟨(blk_cell BK20032.out 0).trans rfl, (blk_cell BK20032.out 1).trans rfl, (blk_cell BK20032.out 2).trans rfl, (blk_cell BK20017.out 0).trans rfl, (blk_cell BK20017.out 1).trans rfl, (blk_cell BK20017.out 2).trans rfl⟩ (fun hHeld => ?_)
          clear hK K
          refine norm_ (a' := ?_) ?_ ?_
          rotate_left
          ·
           show Act.put _ (some 72) _ = _
           simp only [Act.put, List.setIfInBounds_toArray, List.set_cons_zero, List.set_cons_succ, i64_w, i32_w]
           rfl
          refine pz 8 76 HT_.out ?_
          refine pz 9 77 HT_.out ?_
          refine pz 10 78 HT_.out ?_
          refine pz 11 79 HT_.out ?_
          refine pz 14 82 HT_.out ?_
          refine pz 15 83 HT_.out ?_
          refine take_ (i := 12) (N := some 80) (v := ?_) (a' := ?_) #[true, true, true, true, true, true, true, true, true, true, true, true, true, false, true, true, false, false, false, false, false, false, false, false, false, false, false, false, false, false, false, false, false, false, false, false, false, false] rfl rfl (take_ofW HT_.out HW_.out (by kernel_rfl)) (fun _ _ _ h => h) (Or.inl ⟨by rfl, ?_⟩) hHeld ?_ ?_
          rotate_left
          ·
           rintro w' ⟨s0, s1, s2, s3, s4, s5⟩
           go_simp
           with_reducible rfl
          rotate_left
          ·
           simp only [Act.put, List.setIfInBounds_toArray, List.set_cons_zero, List.set_cons_succ, i64_w, i32_w]
           rfl
          refine pz 13 81 HT_.out ?_
          refine pz 16 84 HT_.out ?_
          refine pz 17 85 HT_.out ?_
          refine pz 18 86 HT_.out ?_
          refine pz 19 87 HT_.out ?_
          refine pz 21 89 HT_.out ?_
          refine pz 22 90 HT_.out ?_
          refine take_ (i := 20) (N := some 88) (v := ?_) (a' := ?_) #[true, true, true, true, true, true, true, true, true, true, true, true, true, true, true, true, true, true, true, true, true, true, true, false, false, false, false, false, false, false, false, false, false, false, false, false, false, false] rfl rfl (take_ofW HT_.out HW_.out (by kernel_rfl)) (fun _ _ _ h => h) (Or.inl ⟨by rfl, ?_⟩) hHeld ?_ ?_
          rotate_left
          ·
           rintro w' ⟨s0, s1, s2, s3, s4, s5⟩
           go_simp
           with_reducible rfl
          rotate_left
          ·
           simp only [Act.put, List.setIfInBounds_toArray, List.set_cons_zero, List.set_cons_succ, i64_w, i32_w]
           rfl
          refine take_ (i := 23) (N := some 91) (v := ?_) (a' := ?_) #[true, true, true, true, true, true, true, true, true, true, true, true, true, true, true, true, true, true, true, true, true, true, true, true, false, false, false, false, false, false, false, false, false, false, false, false, false, false] rfl rfl (take_ofW HT_.out HW_.out (by kernel_rfl)) (fun _ _ _ h => h) (Or.inl ⟨by rfl, ?_⟩) hHeld ?_ ?_
          rotate_left
          ·
           rintro w' ⟨s0, s1, s2, s3, s4, s5⟩
           go_simp
           with_reducible rfl
          rotate_left
          ·
           simp only [Act.put, List.setIfInBounds_toArray, List.set_cons_zero, List.set_cons_succ, i64_w, i32_w]
           rfl
          refine pz 24 92 HT_.out ?_
          refine pz 25 93 HT_.out ?_
          refine oz 26 94 HT_.out (fun K hK => ?_)
          refine goes_ Try.func22 (by kernel_rfl) rfl #[.slice Ao59 t20025.length co59, .slice Ao20 y20034.length co20] (by rfl) rfl rfl lz ?_
          with_reducible refine (examboardlaw53_equal.calls kj25 _ _ t20025 _ _ y20034 true _ ?side1 ?side2 ?side3 ?side4 A41.out).mono ?_
          (case side1 => repeat (first | exact (Kd.R_reads' HO20027.out).2.2 | (with_reducible refine Kd.C_alloc ?_ _) | (with_reducible refine Kd.C_drewN ?_ _) | (with_reducible refine Kd.C_drew ?_)))
          (case side2 => exact (Kd.R_reads' HO20027.out).2.1)
          (case side3 => repeat (first | exact (Kd.V_reads' HO20038.out).2.2 | (with_reducible refine Kd.C_alloc ?_ _) | (with_reducible refine Kd.C_drewN ?_ _) | (with_reducible refine Kd.C_drew ?_)))
          (case side4 => exact (Kd.V_reads' HO20038.out).2.1)
          rintro e w' ⟨rfl, ⟨nd, rfl⟩⟩
          refine ⟨_, rfl, ?_⟩
          refine hK.out _ _ ⟨(blk_cell BK20032.out 0).trans rfl, (blk_cell BK20032.out 1).trans rfl, (blk_cell BK20032.out 2).trans rfl, (blk_cell BK20017.out 0).trans rfl, (blk_cell BK20017.out 1).trans rfl, (blk_cell BK20017.out 2).trans rfl⟩ (fun hHeld => ?_)
          clear hK K
          refine norm_ (a' := ?_) ?_ ?_
          rotate_left
          ·
           show Act.put _ (some 94) _ = _
           simp only [Act.put, List.setIfInBounds_toArray, List.set_cons_zero, List.set_cons_succ, i64_w, i32_w]
           rfl
          refine pz 27 95 HT_.out ?_
          refine pz 28 96 HT_.out ?_
          refine pz 29 97 HT_.out ?_
          refine pz 30 98 HT_.out ?_
          refine pz 33 101 HT_.out ?_
          refine take_ (i := 31) (N := some 99) (v := ?_) (a' := ?_) #[true, true, true, true, true, true, true, true, true, true, true, true, true, true, true, true, true, true, true, true, true, true, true, true, true, true, true, true, true, true, true, true, false, true, false, false, false, false] rfl rfl (take_ofW HT_.out HW_.out (by kernel_rfl)) (fun _ _ _ h => h) (Or.inl ⟨by rfl, ?_⟩) hHeld ?_ ?_
          rotate_left
          ·
           rintro w' ⟨s0, s1, s2, s3, s4, s5⟩
           go_simp
           with_reducible rfl
          rotate_left
          ·
           simp only [Act.put, List.setIfInBounds_toArray, List.set_cons_zero, List.set_cons_succ, i64_w, i32_w]
           rfl
          refine pz 32 100 HT_.out ?_
          refine take_ (i := 34) (N := some 102) (v := ?_) (a' := ?_) #[true, true, true, true, true, true, true, true, true, true, true, true, true, true, true, true, true, true, true, true, true, true, true, true, true, true, true, true, true, true, true, true, true, true, true, false, false, false] rfl rfl (take_ofW HT_.out HW_.out (by kernel_rfl)) (fun _ _ _ h => h) (Or.inl ⟨by rfl, ?_⟩) hHeld ?_ ?_
          rotate_left
          ·
           rintro w' ⟨s0, s1, s2, s3, s4, s5⟩
           go_simp
           with_reducible rfl
          rotate_left
          ·
           simp only [Act.put, List.setIfInBounds_toArray, List.set_cons_zero, List.set_cons_succ, i64_w, i32_w]
           rfl
          refine pz 35 103 HT_.out ?_
          refine pz 36 104 HT_.out ?_
          refine pz 37 105 HT_.out ?_
          refine done_ (done_of HT_.out (by kernel_rfl)) ?_
          have hcz65_0 : w63.cell? ⟨gb20032, 0, none⟩ = some (.int .i64 t20024) := (blk_cell BK20032.out 0).trans rfl
          have hcz65_1 : w63.cell? ⟨gb20032, 1, none⟩ = some (.slice Ao59 t20025.length co59) := (blk_cell BK20032.out 1).trans rfl
          have hcz65_2 : w63.cell? ⟨gb20032, 2, none⟩ = some (.slice Ao60 t20028.length co60) := (blk_cell BK20032.out 2).trans rfl
          have hfz65_0 := blk_frozen BK20032.out 0
          have hfz65_1 := blk_frozen BK20032.out 1
          have hfz65_2 := blk_frozen BK20032.out 2
          have hcz66_0 : w63.cell? ⟨gb20017, 0, none⟩ = some (.int .i64 x20018000_1) := (blk_cell BK20017.out 0).trans rfl
          have hcz66_1 : w63.cell? ⟨gb20017, 1, none⟩ = some (.slice Ao51 x20018001_1.length co51) := (blk_cell BK20017.out 1).trans rfl
          have hcz66_2 : w63.cell? ⟨gb20017, 2, none⟩ = some (.slice Ao52 x20018002_1.length co52) := (blk_cell BK20017.out 2).trans rfl
          have hfz66_0 := blk_frozen BK20017.out 0
          have hfz66_1 := blk_frozen BK20017.out 1
          have hfz66_2 := blk_frozen BK20017.out 2
          have hcz67_0 : w63.cell? ⟨gb20023, 0, none⟩ = some (.int .i64 ((rd_T25 t20002 (ji31)).f0)) := (blk_cell BK20023.out 0).trans rfl
          have hcz67_1 : w63.cell? ⟨gb20023, 1, none⟩ = some (.int .i64 ((rd_T25 t20002 (ji31)).f1)) := (blk_cell BK20023.out 1).trans rfl
          have hcz67_2 : w63.cell? ⟨gb20023, 2, none⟩ = some (.slice A20022_2 ((rd_T25 t20002 (ji31)).f2).length c20022_2) := (blk_cell BK20023.out 2).trans rfl
          have hcz67_3 : w63.cell? ⟨gb20023, 3, none⟩ = some (.int .u64 ((rd_T25 t20002 (ji31)).f3)) := (blk_cell BK20023.out 3).trans rfl
          have hfz67_0 := blk_frozen BK20023.out 0
          have hfz67_1 := blk_frozen BK20023.out 1
          have hfz67_2 := blk_frozen BK20023.out 2
          have hfz67_3 := blk_frozen BK20023.out 3
          try go_wp2
          go_loopg [110] kj25 (fun kq v110 w' => ∃ (x12_3 : List Bool) (x110_3 : Int), v110 = .int .i64 x110_3 ∧ Aside0 (examboardlaw53_UploadOnce.l1 kq t20002 t20005 x12_3 l2 (l2.length : Int) x42_1 (((rd_T25 t20002 (ji31)).f2).length : Int) x110_3 t20024 t20025 t20028 ((rd_T25 t20002 (ji31)).f0) ((rd_T25 t20002 (ji31)).f1) ((rd_T25 t20002 (ji31)).f2) ((rd_T25 t20002 (ji31)).f3) = some r) ∧ Aside0 (kq ≤ kj25) ∧ Aside0 (Kd.N k25 25 w' w.heap.size (fun k_ => some k_ ≠ (v20019 : Value).ownBlock ∧ some k_ ≠ ((.slice Ao59 t20025.length co59) : Value).ownBlock ∧ some k_ ≠ ((.slice Ao60 t20028.length co60) : Value).ownBlock ∧ some k_ ≠ ((.slice Ao59 t20025.length co59) : Value).ownBlock ∧ some k_ ≠ ((.slice Ao60 t20028.length co60) : Value).ownBlock ∧ k_ ≠ gb20001 ∧ k_ ≠ gb20017 ∧ k_ ≠ gb20023 ∧ k_ ≠ gb20032) (.slice (some ad20022) t20002.length co44) t20002) ∧ Aside0 (Kd.V (Kd.int .u8) 5 w' w.heap.size (fun k_ => some k_ ≠ ((.slice (some ad20022) t20002.length co44) : Value).ownBlock ∧ some k_ ≠ (v20019 : Value).ownBlock ∧ some k_ ≠ ((.slice Ao59 t20025.length co59) : Value).ownBlock ∧ some k_ ≠ ((.slice Ao60 t20028.length co60) : Value).ownBlock ∧ some k_ ≠ ((.slice Ao59 t20025.length co59) : Value).ownBlock ∧ some k_ ≠ ((.slice Ao60 t20028.length co60) : Value).ownBlock ∧ k_ ≠ gb20001 ∧ k_ ≠ gb20017 ∧ k_ ≠ gb20023 ∧ k_ ≠ gb20032) (.slice Ao20 t20005.length co20) t20005) ∧ Aside0 (Kd.R Kd.bool 4 w' w.heap.size (fun _ => True) v20019 x12_3) ∧ Aside0 (Kd.R (Kd.int .u8) 5 w' w.heap.size (fun _ => True) (.slice Ao59 t20025.length co59) t20025) ∧ Aside0 (Kd.N k25 25 w' w.heap.size (fun k_ => some k_ ≠ ((.slice (some ad20022) t20002.length co44) : Value).ownBlock ∧ some k_ ≠ (v20019 : Value).ownBlock ∧ some k_ ≠ ((.slice Ao59 t20025.length co59) : Value).ownBlock ∧ some k_ ≠ ((.slice Ao59 t20025.length co59) : Value).ownBlock ∧ k_ ≠ gb20001 ∧ k_ ≠ gb20017 ∧ k_ ≠ gb20023 ∧ k_ ≠ gb20032) (.slice Ao60 t20028.length co60) t20028) ∧ Aside0 (Kd.R (Kd.int .u8) 5 w' w.heap.size (fun _ => True) (.slice Ao59 t20025.length co59) t20025) ∧ Aside0 (Kd.N k25 25 w' w.heap.size (fun k_ => some k_ ≠ ((.slice (some ad20022) t20002.length co44) : Value).ownBlock ∧ some k_ ≠ (v20019 : Value).ownBlock ∧ some k_ ≠ ((.slice Ao59 t20025.length co59) : Value).ownBlock ∧ some k_ ≠ ((.slice Ao59 t20025.length co59) : Value).ownBlock ∧ k_ ≠ gb20001 ∧ k_ ≠ gb20017 ∧ k_ ≠ gb20023 ∧ k_ ≠ gb20032) (.slice Ao60 t20028.length co60) t20028) ∧ Aside0 (w'.heap[gb20001]? = some (.cells #[.int .u8 a1_0, .int .u8 a1_1] 41 (0, 0))) ∧ Aside0 (w'.heap[gb20017]? = some (.cells #[.int .i64 t20024, (.slice Ao59 t20025.length co59), (.slice Ao60 t20028.length co60)] 34 (0, 0))) ∧ Aside0 (w'.heap[gb20023]? = some (.cells #[.int .i64 ((rd_T25 t20002 (ji31)).f0), .int .i64 ((rd_T25 t20002 (ji31)).f1), (.slice A20022_2 ((rd_T25 t20002 (ji31)).f2).length c20022_2), .int .u64 ((rd_T25 t20002 (ji31)).f3)] 25 (0, 0))) ∧ Aside0 (w'.heap[gb20032]? = some (.cells #[.int .i64 t20024, (.slice Ao59 t20025.length co59), (.slice Ao60 t20028.length co60)] 34 (0, 0))) ∧ Aside0 (Below w.heap.size w w'))
          case atStart => exact ⟨(x12_1), (0), (by first | rfl | (simp; done) | (simp [*]; done)), H', ⟨Nat.le_refl _⟩, ⟨by (with_reducible repeat (first | apply Kd.N_alloc | apply Kd.N_drewN | apply Kd.N_drew)); exact Kd.N_mono (Kd.N_far (p := ⟨gb20017, 2, none⟩) (Kd.N_far (p := ⟨gb20017, 1, none⟩) (Kd.N_far (p := ⟨gb20017, 0, none⟩) (Kd.N_mono HO_7.out (fun k_ hk => (⟨hk, hk.2.2.2.2.2.2.1⟩ : _ ∧ k_ ≠ gb20017))) (fun _ hk => hk.2) (.int .i64 t20024)) (fun _ hk => hk.2) (.slice Ao59 t20025.length co59)) (fun _ hk => hk.2) (.slice Ao60 t20028.length co60)) (fun _ hk => ⟨hk.1.1, ⟨hk.1.2.2.2.1, ⟨hk.1.2.2.2.2.1, ⟨hk.1.2.2.2.1, ⟨hk.1.2.2.2.2.1, ⟨hk.1.2.2.2.2.2.1, ⟨hk.1.2.2.2.2.2.2.1, ⟨hk.1.2.2.2.2.2.2.2.1, hk.1.2.2.2.2.2.2.2.2⟩⟩⟩⟩⟩⟩⟩⟩)⟩, ⟨by (with_reducible repeat (first | apply Kd.V_alloc | apply Kd.V_drewN | apply Kd.V_drew)); exact Kd.V_mono (Kd.V_far (p := ⟨gb20017, 2, none⟩) (Kd.V_far (p := ⟨gb20017, 1, none⟩) (Kd.V_far (p := ⟨gb20017, 0, none⟩) (Kd.V_mono HO_8.out (fun k_ hk => (⟨hk, hk.2.2.2.2.2.2.2.1⟩ : _ ∧ k_ ≠ gb20017))) (fun _ hk => hk.2) (.int .i64 t20024)) (fun _ hk => hk.2) (.slice Ao59 t20025.length co59)) (fun _ hk => hk.2) (.slice Ao60 t20028.length co60)) (fun _ hk => ⟨hk.1.1, ⟨hk.1.2.1, ⟨hk.1.2.2.2.2.1, ⟨hk.1.2.2.2.2.2.1, ⟨hk.1.2.2.2.2.1, ⟨hk.1.2.2.2.2.2.1, ⟨hk.1.2.2.2.2.2.2.1, ⟨hk.1.2.2.2.2.2.2.2.1, ⟨hk.1.2.2.2.2.2.2.2.2.1, hk.1.2.2.2.2.2.2.2.2.2⟩⟩⟩⟩⟩⟩⟩⟩⟩)⟩, ⟨by (with_reducible repeat (first | apply Kd.R_alloc | apply Kd.R_drewN | apply Kd.R_drew)); exact Kd.R_mono (rfg3 HO_12.out BK20017.out) (fun _ hk => trivial)⟩, ⟨by (with_reducible repeat (first | apply Kd.R_alloc | apply Kd.R_drewN | apply Kd.R_drew)); exact Kd.R_mono (rfg3 HO20027.out BK20017.out) (fun _ hk => trivial)⟩, ⟨by (with_reducible repeat (first | apply Kd.N_alloc | apply Kd.N_drewN | apply Kd.N_drew)); exact Kd.N_mono (Kd.N_far (p := ⟨gb20017, 2, none⟩) (Kd.N_far (p := ⟨gb20017, 1, none⟩) (Kd.N_far (p := ⟨gb20017, 0, none⟩) (Kd.N_mono HO20030.out (fun k_ hk => (⟨hk, hk.2.2.2.2.2.2.1⟩ : _ ∧ k_ ≠ gb20017))) (fun _ hk => hk.2) (.int .i64 t20024)) (fun _ hk => hk.2) (.slice Ao59 t20025.length co59)) (fun _ hk => hk.2) (.slice Ao60 t20028.length co60)) (fun _ hk => ⟨hk.1.1, ⟨hk.1.2.1, ⟨hk.1.2.2.2.2.1, ⟨hk.1.2.2.2.2.1, ⟨hk.1.2.2.2.2.2.1, ⟨hk.1.2.2.2.2.2.2.1, ⟨hk.1.2.2.2.2.2.2.2.1, hk.1.2.2.2.2.2.2.2.2⟩⟩⟩⟩⟩⟩⟩)⟩, ⟨by (with_reducible repeat (first | apply Kd.R_alloc | apply Kd.R_drewN | apply Kd.R_drew)); exact Kd.R_mono (rfg3 HO20027.out BK20017.out) (fun _ hk => trivial)⟩, ⟨by (with_reducible repeat (first | apply Kd.N_alloc | apply Kd.N_drewN | apply Kd.N_drew)); exact Kd.N_mono (Kd.N_far (p := ⟨gb20017, 2, none⟩) (Kd.N_far (p := ⟨gb20017, 1, none⟩) (Kd.N_far (p := ⟨gb20017, 0, none⟩) (Kd.N_mono HO20030.out (fun k_ hk => (⟨hk, hk.2.2.2.2.2.2.1⟩ : _ ∧ k_ ≠ gb20017))) (fun _ hk => hk.2) (.int .i64 t20024)) (fun _ hk => hk.2) (.slice Ao59 t20025.length co59)) (fun _ hk => hk.2) (.slice Ao60 t20028.length co60)) (fun _ hk => ⟨hk.1.1, ⟨hk.1.2.1, ⟨hk.1.2.2.2.2.1, ⟨hk.1.2.2.2.2.1, ⟨hk.1.2.2.2.2.2.1, ⟨hk.1.2.2.2.2.2.2.1, ⟨hk.1.2.2.2.2.2.2.2.1, hk.1.2.2.2.2.2.2.2.2⟩⟩⟩⟩⟩⟩⟩)⟩, ⟨bf1 NB20001_20017.out BK20001.out⟩, ⟨by (with_reducible repeat (first | refine blk_drewN ?_ _ | refine blk_drew ?_ | refine blk_alloc ?_ _)); refine blk_put (cs := #[.int .i64 t20024, .slice Ao59 t20025.length co59, .slice Ao52 x20018002_1.length co52]) ?_ 2 _ rfl; (with_reducible repeat (first | refine blk_drewN ?_ _ | refine blk_drew ?_ | refine blk_alloc ?_ _)); refine blk_put (cs := #[.int .i64 t20024, .slice Ao51 x20018001_1.length co51, .slice Ao52 x20018002_1.length co52]) ?_ 1 _ rfl; (with_reducible repeat (first | refine blk_drewN ?_ _ | refine blk_drew ?_ | refine blk_alloc ?_ _)); refine blk_put (cs := #[.int .i64 x20018000_1, .slice Ao51 x20018001_1.length co51, .slice Ao52 x20018002_1.length co52]) ?_ 0 _ rfl; (with_reducible repeat (first | refine blk_drewN ?_ _ | refine blk_drew ?_ | refine blk_alloc ?_ _)); exact BK20017.out⟩, ⟨bf1 NB20023_20017.out BK20023.out⟩, ⟨bf1 NB20032_20017.out BK20032.out⟩, ⟨hz4 HB.out GE20001.out GE20017.out GE20023.out GE20032.out⟩⟩
          case round =>
           clear H'
           try clear c2
           try clear p2
           try clear q2
           try clear hx2
           try clear c3
           try clear c4
           try clear c5
           try clear p6
           try clear q6
           try clear c20
           try clear p20
           try clear q20
           try clear hx20
           try clear c21
           try clear c22
           try clear c29
           try clear c30
           try clear c30b0
           try clear c30b1
           try clear c30b2
           try clear c32
           try clear c32b0
           try clear c33
           try clear c33b0
           try clear c35
           try clear c35b0
           try clear c35b1
           try clear c37
           try clear c37b0
           try clear c37b1
           try clear c38
           try clear c38b0
           try clear c38b1
           try clear c39
           try clear c39b0
           try clear c39b1
           try clear c40
           try clear c40b0
           try clear c40b1
           try clear c42
           try clear c43
           try clear c43b0
           try clear c43b1
           try clear c46
           try clear c47
           try clear c49
           try clear c55
           try clear c56
           try clear c57
           try clear p64
           try clear q64
           try clear hcz48_0
           try clear hcz48_1
           try clear hcz48_2
           try clear hcz48_3
           try clear hcz50_0
           try clear hcz50_1
           try clear hcz50_2
           try clear hcz58_0
           try clear hcz58_1
           try clear hcz58_2
           try clear hcz65_0
           try clear hcz65_1
           try clear hcz65_2
           try clear hcz66_0
           try clear hcz66_1
           try clear hcz66_2
           try clear hcz67_0
           try clear hcz67_1
           try clear hcz67_2
           try clear hcz67_3
           try clear hfz48_0
           try clear hfz48_1
           try clear hfz48_2
           try clear hfz48_3
           try clear hfz50_0
           try clear hfz50_1
           try clear hfz50_2
           try clear hfz58_0
           try clear hfz58_1
           try clear hfz58_2
           try clear hfz65_0
           try clear hfz65_1
           try clear hfz65_2
           try clear hfz66_0
           try clear hfz66_1
           try clear hfz66_2
           try clear hfz67_0
           try clear hfz67_1
           try clear hfz67_2
           try clear hfz67_3
           try clear hx20022_0
           try clear hx20022_1
           try clear hx20022_2
           try clear hx20022_3
           try clear p20022
           try clear q20022
           try clear q64
           obtain ⟨x12_3, x110_3, rfl, HA, HK3, HO_7, HO_8, HO_12, HO_20018001, HO_20018002, HO_20033001, HO_20033002, BK20001, BK20017, BK20023, BK20032, HB⟩ := hrel
           cases gk with
           | zero => exact absurd HA.out (by simp [examboardlaw53_UploadOnce.l1])
           | succ k3 =>
            have H := HA.out
            clear HA
            simp only [examboardlaw53_UploadOnce.l1] at H
            by_cases c68 : x110_3 < (((rd_T25 t20002 (ji31)).f2).length : Int)
            ·
             rw [if_pos c68] at H
             have c68b0 : decide (x110_3 < (((rd_T25 t20002 (ji31)).f2).length : Int)) = true := decide_eq_true c68
             clear c68
             obtain ⟨ji69, hji69⟩ : ∃ j_ : Int, (wrap64 (((rd_T25 t20002 (ji31)).f1) + x110_3)) = j_ := ⟨_, rfl⟩
             replace H : (if 0 ≤ (ji69) then (if (ji69) < (x12_3.length : Int) then (examboardlaw53_UploadOnce.l1 k3 t20002 t20005 (x12_3.set ((ji69) : Int).toNat true) l2 (l2.length : Int) x42_1 (((rd_T25 t20002 (ji31)).f2).length : Int) (wrap64 (x110_3 + 1)) t20024 t20025 t20028 ((rd_T25 t20002 (ji31)).f0) ((rd_T25 t20002 (ji31)).f1) ((rd_T25 t20002 (ji31)).f2) ((rd_T25 t20002 (ji31)).f3)) else (none)) else (none)) = some r := by first | (rw [hji69] at H; exact H) | (simp only [hji69] at H ⊢; exact H)
             have hji69w : (IntKind.i64.wrap (((rd_T25 t20002 (ji31)).f1) + x110_3)) = ji69 := (i64_w _).trans hji69
             replace H := it_ H
             obtain ⟨c70, H⟩ := H
             have c70b0 : decide (0 ≤ (ji69)) = true := decide_eq_true c70
             clear c70
             replace H := it_ H
             obtain ⟨c71, H⟩ := H
             have c71b0 : decide ((ji69) < (x12_3.length : Int)) = true := decide_eq_true c71
             clear c71
             obtain ⟨y20040, hy20040⟩ : ∃ y_ : List Bool, y_ = (x12_3.set ((ji69) : Int).toNat true) := ⟨_, rfl⟩
             replace H : (examboardlaw53_UploadOnce.l1 k3 t20002 t20005 y20040 l2 (l2.length : Int) x42_1 (((rd_T25 t20002 (ji31)).f2).length : Int) (wrap64 (x110_3 + 1)) t20024 t20025 t20028 ((rd_T25 t20002 (ji31)).f0) ((rd_T25 t20002 (ji31)).f1) ((rd_T25 t20002 (ji31)).f2) ((rd_T25 t20002 (ji31)).f3)) = some r := by first | (rw [hy20040]; with_reducible exact H) | (have H2_ := (Option.bind_some _ _).symm.trans H; rw [hy20040]; with_reducible exact H2_) | (have H2_ := (Option.bind_some _ _).symm.trans H; with_reducible exact H2_) | with_reducible exact H | (rw [hy20040]; exact H) | exact H
             have Ny20040 := am hy20040
             clear hy20040
             have H' := am H
             clear H
             have hnb73 := NB20023_20001.out
             have hnc73 := NB20001_20023.out
             have hnb74 := NB20023_20017.out
             have hnc74 := NB20017_20023.out
             have hnb75 := NB20023_20032.out
             have hnc75 := NB20032_20023.out
             have hcz76_0 : wr.cell? ⟨gb20023, 0, none⟩ = some (.int .i64 ((rd_T25 t20002 (ji31)).f0)) := (blk_cell BK20023.out 0).trans rfl
             have hcz76_1 : wr.cell? ⟨gb20023, 1, none⟩ = some (.int .i64 ((rd_T25 t20002 (ji31)).f1)) := (blk_cell BK20023.out 1).trans rfl
             have hcz76_2 : wr.cell? ⟨gb20023, 2, none⟩ = some (.slice A20022_2 ((rd_T25 t20002 (ji31)).f2).length c20022_2) := (blk_cell BK20023.out 2).trans rfl
             have hcz76_3 : wr.cell? ⟨gb20023, 3, none⟩ = some (.int .u64 ((rd_T25 t20002 (ji31)).f3)) := (blk_cell BK20023.out 3).trans rfl
             have hfz76_0 := blk_frozen BK20023.out 0
             have hfz76_1 := blk_frozen BK20023.out 1
             have hfz76_2 := blk_frozen BK20023.out 2
             have hfz76_3 := blk_frozen BK20023.out 3
             have p72 : 0 ≤ ((ji69) : Int) := of_decide_eq_true az
             have q72 : ((ji69) : Int) < ((x12_3.length : Int) : Int) := of_decide_eq_true az
             obtain ⟨go72, co72, eo72, gb72, gl72, cl72, HG72⟩ := Kd.R_form HO_12.out (by omega)
             (first | cases eo72 | (injection eo72 with ea_ en_ ec_; (first | subst ea_ | (injection ea_ with ea_; subst ea_)); subst ec_; clear en_))
             have GB72 := am gb72
             have GG72 := am HG72
             clear gb72 gl72 HG72
             obtain ⟨hx72_0, hf72_0⟩ := Kd.R_celln false HO_12.out ((ji69) : Int) p72 q72
             replace p72 := eq_true p72
             replace q72 := eq_true q72
             have HP77 := Kd.R_putg HO_12.out ((ji69) : Int) true
             go_wp2_with (first | ((with_reducible refine gate_store (t := 4) (p := 118) rfl ?_); refine store_event (t := 4) (p := 118) (v := ?vo_w78) (w1 := (wr.setCell ⟨go72, ((ji69) : Int).toNat, none⟩ (.bool true))) ?hg ?ho ?hn ?hr ?_; (case ho => rfl); (case hg => rfl); (case hn => rfl); (case hr => exact gz); intro w78 hw; have hg : wr.grownBy w78 (some go72) := (by rw [hw]; exact HP77.2); have hp_ : Kd.R Kd.bool 4 w78 w.heap.size (fun _ => True) (.slice (some ⟨go72, 0, none⟩) x12_3.length co72) y20040 := (by rw [hw, Ny20040.out]; exact HP77.1); clear HP77; replace HO_7 := am (Kd.N_afterv (v := (.slice (some ⟨go72, 0, none⟩) x12_3.length co72)) (v1 := (.slice (some ⟨go72, 0, none⟩) x12_3.length co72)) (ok := (fun k_ => some k_ ≠ (.slice Ao59 t20025.length co59 : Value).ownBlock ∧ some k_ ≠ (.slice Ao60 t20028.length co60 : Value).ownBlock ∧ some k_ ≠ (.slice Ao59 t20025.length co59 : Value).ownBlock ∧ some k_ ≠ (.slice Ao60 t20028.length co60 : Value).ownBlock ∧ k_ ≠ gb20001 ∧ k_ ≠ gb20017 ∧ k_ ≠ gb20023 ∧ k_ ≠ gb20032)) (nz (Kd.N_mono HO_7.out (fun _ hk => ⟨⟨hk.2.1, ⟨hk.2.2.1, ⟨hk.2.2.2.1, ⟨hk.2.2.2.2.1, ⟨hk.2.2.2.2.2.1, ⟨hk.2.2.2.2.2.2.1, ⟨hk.2.2.2.2.2.2.2.1, hk.2.2.2.2.2.2.2.2⟩⟩⟩⟩⟩⟩⟩, hk.1⟩))) hg (.inl rfl)); replace HO_8 := am (Kd.V_afterv (v := (.slice (some ⟨go72, 0, none⟩) x12_3.length co72)) (v1 := (.slice (some ⟨go72, 0, none⟩) x12_3.length co72)) (ok := (fun k_ => some k_ ≠ (.slice (some ad20022) t20002.length co44 : Value).ownBlock ∧ some k_ ≠ (.slice Ao59 t20025.length co59 : Value).ownBlock ∧ some k_ ≠ (.slice Ao60 t20028.length co60 : Value).ownBlock ∧ some k_ ≠ (.slice Ao59 t20025.length co59 : Value).ownBlock ∧ some k_ ≠ (.slice Ao60 t20028.length co60 : Value).ownBlock ∧ k_ ≠ gb20001 ∧ k_ ≠ gb20017 ∧ k_ ≠ gb20023 ∧ k_ ≠ gb20032)) (vz (Kd.V_mono HO_8.out (fun _ hk => ⟨⟨hk.1, ⟨hk.2.2.1, ⟨hk.2.2.2.1, ⟨hk.2.2.2.2.1, ⟨hk.2.2.2.2.2.1, ⟨hk.2.2.2.2.2.2.1, ⟨hk.2.2.2.2.2.2.2.1, ⟨hk.2.2.2.2.2.2.2.2.1, hk.2.2.2.2.2.2.2.2.2⟩⟩⟩⟩⟩⟩⟩⟩, hk.2.1⟩))) hg (.inl rfl)); replace HO_20018001 := am (Kd.R_over' (v := (.slice (some ⟨go72, 0, none⟩) x12_3.length co72)) (rz HO_20018001.out) (Kd.R_typed HO_12.out) (by decide) hg); replace HO_20018002 := am (Kd.N_afterv (v := (.slice (some ⟨go72, 0, none⟩) x12_3.length co72)) (v1 := (.slice (some ⟨go72, 0, none⟩) x12_3.length co72)) (ok := (fun k_ => some k_ ≠ (.slice (some ad20022) t20002.length co44 : Value).ownBlock ∧ some k_ ≠ (.slice Ao59 t20025.length co59 : Value).ownBlock ∧ some k_ ≠ (.slice Ao59 t20025.length co59 : Value).ownBlock ∧ k_ ≠ gb20001 ∧ k_ ≠ gb20017 ∧ k_ ≠ gb20023 ∧ k_ ≠ gb20032)) (nz (Kd.N_mono HO_20018002.out (fun _ hk => ⟨⟨hk.1, ⟨hk.2.2.1, ⟨hk.2.2.2.1, ⟨hk.2.2.2.2.1, ⟨hk.2.2.2.2.2.1, ⟨hk.2.2.2.2.2.2.1, hk.2.2.2.2.2.2.2⟩⟩⟩⟩⟩⟩, hk.2.1⟩))) hg (.inl rfl)); replace HO_20033001 := am (Kd.R_over' (v := (.slice (some ⟨go72, 0, none⟩) x12_3.length co72)) (rz HO_20033001.out) (Kd.R_typed HO_12.out) (by decide) hg); replace HO_20033002 := am (Kd.N_afterv (v := (.slice (some ⟨go72, 0, none⟩) x12_3.length co72)) (v1 := (.slice (some ⟨go72, 0, none⟩) x12_3.length co72)) (ok := (fun k_ => some k_ ≠ (.slice (some ad20022) t20002.length co44 : Value).ownBlock ∧ some k_ ≠ (.slice Ao59 t20025.length co59 : Value).ownBlock ∧ some k_ ≠ (.slice Ao59 t20025.length co59 : Value).ownBlock ∧ k_ ≠ gb20001 ∧ k_ ≠ gb20017 ∧ k_ ≠ gb20023 ∧ k_ ≠ gb20032)) (nz (Kd.N_mono HO_20033002.out (fun _ hk => ⟨⟨hk.1, ⟨hk.2.2.1, ⟨hk.2.2.2.1, ⟨hk.2.2.2.2.1, ⟨hk.2.2.2.2.2.1, ⟨hk.2.2.2.2.2.2.1, hk.2.2.2.2.2.2.2⟩⟩⟩⟩⟩⟩, hk.2.1⟩))) hg (.inl rfl)); replace BK20001 := am (blk_grown (bz BK20001.out) hg (Kd.R_ne HO_12.out BK20001.out (by decide))); replace BK20017 := am (blk_grown (bz BK20017.out) hg (Kd.R_ne HO_12.out BK20017.out (by decide))); replace BK20023 := am (blk_grown (bz BK20023.out) hg (Kd.R_ne HO_12.out BK20023.out (by decide))); replace BK20032 := am (blk_grown (bz BK20032.out) hg (Kd.R_ne HO_12.out BK20032.out (by decide))); replace HO_12 := am (hp_); replace HB := am ((by rw [hw]; exact below_set (HB.out) GB72.out : Below w.heap.size w w78)); clear hg hw hp_))
             go_roundg k3
             case measure => have := HK1.out; have := HJ25.out; have := HK3.out; omega
             case rel => exact ⟨(y20040), (wrap64 (x110_3 + 1)), (by first | rfl | (simp; done) | (simp [*]; done)), H', ⟨by have := HK1.out; have := HJ25.out; have := HK3.out; omega⟩, ⟨by (with_reducible repeat (first | apply Kd.N_alloc | apply Kd.N_drewN | apply Kd.N_drew)); exact Kd.N_mono HO_7.out (fun _ hk => ⟨hk.2, ⟨hk.1.1, ⟨hk.1.2.1, ⟨hk.1.2.2.1, ⟨hk.1.2.2.2.1, ⟨hk.1.2.2.2.2.1, ⟨hk.1.2.2.2.2.2.1, ⟨hk.1.2.2.2.2.2.2.1, hk.1.2.2.2.2.2.2.2⟩⟩⟩⟩⟩⟩⟩⟩)⟩, ⟨by (with_reducible repeat (first | apply Kd.V_alloc | apply Kd.V_drewN | apply Kd.V_drew)); exact Kd.V_mono HO_8.out (fun _ hk => ⟨hk.1.1, ⟨hk.2, ⟨hk.1.2.1, ⟨hk.1.2.2.1, ⟨hk.1.2.2.2.1, ⟨hk.1.2.2.2.2.1, ⟨hk.1.2.2.2.2.2.1, ⟨hk.1.2.2.2.2.2.2.1, ⟨hk.1.2.2.2.2.2.2.2.1, hk.1.2.2.2.2.2.2.2.2⟩⟩⟩⟩⟩⟩⟩⟩⟩)⟩, ⟨by (with_reducible repeat (first | apply Kd.R_alloc | apply Kd.R_drewN | apply Kd.R_drew)); exact HO_12.out⟩, ⟨by (with_reducible repeat (first | apply Kd.R_alloc | apply Kd.R_drewN | apply Kd.R_drew)); exact HO_20018001.out⟩, ⟨by (with_reducible repeat (first | apply Kd.N_alloc | apply Kd.N_drewN | apply Kd.N_drew)); exact Kd.N_mono HO_20018002.out (fun _ hk => ⟨hk.1.1, ⟨hk.2, ⟨hk.1.2.1, ⟨hk.1.2.2.1, ⟨hk.1.2.2.2.1, ⟨hk.1.2.2.2.2.1, ⟨hk.1.2.2.2.2.2.1, hk.1.2.2.2.2.2.2⟩⟩⟩⟩⟩⟩⟩)⟩, ⟨by (with_reducible repeat (first | apply Kd.R_alloc | apply Kd.R_drewN | apply Kd.R_drew)); exact HO_20033001.out⟩, ⟨by (with_reducible repeat (first | apply Kd.N_alloc | apply Kd.N_drewN | apply Kd.N_drew)); exact Kd.N_mono HO_20033002.out (fun _ hk => ⟨hk.1.1, ⟨hk.2, ⟨hk.1.2.1, ⟨hk.1.2.2.1, ⟨hk.1.2.2.2.1, ⟨hk.1.2.2.2.2.1, ⟨hk.1.2.2.2.2.2.1, hk.1.2.2.2.2.2.2⟩⟩⟩⟩⟩⟩⟩)⟩, ⟨by (with_reducible repeat (first | refine blk_drewN ?_ _ | refine blk_drew ?_ | refine blk_alloc ?_ _)); exact BK20001.out⟩, ⟨by (with_reducible repeat (first | refine blk_drewN ?_ _ | refine blk_drew ?_ | refine blk_alloc ?_ _)); exact BK20017.out⟩, ⟨by (with_reducible repeat (first | refine blk_drewN ?_ _ | refine blk_drew ?_ | refine blk_alloc ?_ _)); exact BK20023.out⟩, ⟨by (with_reducible repeat (first | refine blk_drewN ?_ _ | refine blk_drew ?_ | refine blk_alloc ?_ _)); exact BK20032.out⟩, ⟨hz4 HB.out GE20001.out GE20017.out GE20023.out GE20032.out⟩⟩
            ·
             rw [if_neg c68] at H
             have c68b0 : decide (x110_3 < (((rd_T25 t20002 (ji31)).f2).length : Int)) = false := decide_eq_false c68
             clear c68
             have H' := am H
             clear H
             go_wp2
             go_roundg k3
             case measure => have := HK1.out; have := HJ25.out; have := HK3.out; omega
             case rel => exact ⟨(x12_3), (wrap64 (x42_1 + 1)), (t20024), (t20025), (t20028), (.slice Ao59 t20025.length co59), (.slice Ao60 t20028.length co60), (by first | rfl | (simp; done) | (simp [*]; done)), H', ⟨by have := HK1.out; have := HJ25.out; have := HK3.out; omega⟩, ⟨by (with_reducible repeat (first | apply Kd.N_alloc | apply Kd.N_drewN | apply Kd.N_drew)); exact Kd.N_mono HO_7.out (fun _ hk => ⟨hk.1, ⟨hk.2.1, ⟨hk.2.2.1, ⟨hk.2.2.2.2.2.1, hk.2.2.2.2.2.2.1⟩⟩⟩⟩)⟩, ⟨by (with_reducible repeat (first | apply Kd.V_alloc | apply Kd.V_drewN | apply Kd.V_drew)); exact Kd.V_mono HO_8.out (fun _ hk => ⟨hk.1, ⟨hk.2.1, ⟨hk.2.2.1, ⟨hk.2.2.2.1, ⟨hk.2.2.2.2.2.2.1, hk.2.2.2.2.2.2.2.1⟩⟩⟩⟩⟩)⟩, ⟨by (with_reducible repeat (first | apply Kd.R_alloc | apply Kd.R_drewN | apply Kd.R_drew)); exact HO_12.out⟩, ⟨by (with_reducible repeat (first | apply Kd.R_alloc | apply Kd.R_drewN | apply Kd.R_drew)); exact HO_20018001.out⟩, ⟨by (with_reducible repeat (first | apply Kd.N_alloc | apply Kd.N_drewN | apply Kd.N_drew)); exact Kd.N_mono HO_20018002.out (fun _ hk => ⟨hk.1, ⟨hk.2.1, ⟨hk.2.2.1, ⟨hk.2.2.2.2.1, hk.2.2.2.2.2.1⟩⟩⟩⟩)⟩, ⟨by (with_reducible repeat (first | refine blk_drewN ?_ _ | refine blk_drew ?_ | refine blk_alloc ?_ _)); exact BK20001.out⟩, ⟨by (with_reducible repeat (first | refine blk_drewN ?_ _ | refine blk_drew ?_ | refine blk_alloc ?_ _)); exact BK20017.out⟩, ⟨hz4 HB.out GE20001.out GE20017.out GE20023.out GE20032.out⟩⟩
         ·
          replace c42 := Bool.eq_false_iff.mpr c42
          subst c42
          have H1 : (none) = some r := by rw [if_neg (show ¬ (false = true) by decide)] at H; exact H
          clear H
          have H := H1
          clear H1
          exact absurd H (by simp)
     ·
      rw [if_neg c23] at H
      have c23b0 : decide (x42_1 < (l2.length : Int)) = false := decide_eq_false c23
      clear c23
      (first | rw [c23b0] | (simp only [i64_w, i32_w]; rw [c23b0]) | skip)
      have H' := am H
      clear H
      go_wp2
      go_meet
      case rel => exact ⟨_, (x12_1), (x20018000_1), (x20018001_1), (x20018002_1), (u20018001), (u20018002), H', ⟨by have := HK1.out; first | omega | exact Nat.le_refl _⟩, ⟨by (with_reducible repeat (first | apply Kd.V_alloc | apply Kd.V_drewN | apply Kd.V_drew)); exact Kd.V_mono HO_8.out (fun _ hk => ⟨hk.2.1, ⟨hk.2.2.1, ⟨hk.2.2.2.1, ⟨hk.2.2.2.2.1, hk.2.2.2.2.2⟩⟩⟩⟩)⟩, ⟨by (with_reducible repeat (first | apply Kd.R_alloc | apply Kd.R_drewN | apply Kd.R_drew)); exact HO_12.out⟩, ⟨by (with_reducible repeat (first | apply Kd.R_alloc | apply Kd.R_drewN | apply Kd.R_drew)); exact HO_20018001.out⟩, ⟨by (with_reducible repeat (first | apply Kd.N_alloc | apply Kd.N_drewN | apply Kd.N_drew)); exact Kd.N_mono HO_20018002.out (fun _ hk => ⟨hk.2.1, ⟨hk.2.2.1, ⟨hk.2.2.2.1, hk.2.2.2.2⟩⟩⟩)⟩, ⟨by (with_reducible repeat (first | refine blk_drewN ?_ _ | refine blk_drew ?_ | refine blk_alloc ?_ _)); exact BK20001.out⟩, ⟨by (with_reducible repeat (first | refine blk_drewN ?_ _ | refine blk_drew ?_ | refine blk_alloc ?_ _)); exact BK20017.out⟩, ⟨hz2 HB.out GE20001.out GE20017.out⟩⟩
  case rest =>
   clear HC10
   try clear c2
   try clear p2
   try clear q2
   try clear hx2
   try clear c3
   try clear c4
   try clear c5
   try clear c6
   try clear p6
   try clear q6
   try clear c7
   try clear p7
   try clear q7
   try clear hx7
   try clear hf7
   try clear c20
   try clear p20
   try clear q20
   try clear hx20
   try clear c21
   try clear c22
   try clear c23
   try clear c23b0
   try clear c24
   try clear c25
   try clear c29
   try clear c30
   try clear c30b0
   try clear c30b1
   try clear c30b2
   try clear c32
   try clear c32b0
   try clear c33
   try clear c33b0
   try clear c35
   try clear c35b0
   try clear c35b1
   try clear c37
   try clear c37b0
   try clear c37b1
   try clear c38
   try clear c38b0
   try clear c38b1
   try clear c39
   try clear c39b0
   try clear c39b1
   try clear c40
   try clear c40b0
   try clear c40b1
   try clear c42
   try clear c43
   try clear c43b0
   try clear c43b1
   try clear c46
   try clear c47
   try clear c49
   try clear c55
   try clear c56
   try clear c57
   try clear p64
   try clear q64
   try clear c68
   try clear c68b0
   try clear c70
   try clear c70b0
   try clear c71
   try clear c71b0
   try clear p72
   try clear q72
   try clear hx72
   try clear hf72
   try clear c73
   try clear c74
   try clear c75
   try clear hcz48_0
   try clear hcz48_1
   try clear hcz48_2
   try clear hcz48_3
   try clear hcz50_0
   try clear hcz50_1
   try clear hcz50_2
   try clear hcz58_0
   try clear hcz58_1
   try clear hcz58_2
   try clear hcz65_0
   try clear hcz65_1
   try clear hcz65_2
   try clear hcz66_0
   try clear hcz66_1
   try clear hcz66_2
   try clear hcz67_0
   try clear hcz67_1
   try clear hcz67_2
   try clear hcz67_3
   try clear hcz76_0
   try clear hcz76_1
   try clear hcz76_2
   try clear hcz76_3
   try clear hfz48_0
   try clear hfz48_1
   try clear hfz48_2
   try clear hfz48_3
   try clear hfz50_0
   try clear hfz50_1
   try clear hfz50_2
   try clear hfz58_0
   try clear hfz58_1
   try clear hfz58_2
   try clear hfz65_0
   try clear hfz65_1
   try clear hfz65_2
   try clear hfz66_0
   try clear hfz66_1
   try clear hfz66_2
   try clear hfz67_0
   try clear hfz67_1
   try clear hfz67_2
   try clear hfz67_3
   try clear hfz76_0
   try clear hfz76_1
   try clear hfz76_2
   try clear hfz76_3
   try clear hx20022_0
   try clear hx20022_1
   try clear hx20022_2
   try clear hx20022_3
   try clear hx72_0
   try clear p2
   try clear p20
   try clear p20022
   try clear p6
   try clear p64
   try clear p72
   try clear q2
   try clear q20
   try clear q20022
   try clear q6
   try clear q64
   try clear q72
   obtain ⟨kq, x12_9, x20018000_9, x20018001_9, x20018002_9, u20018001, u20018002, HA, HJ9, HO_8, HO_12, HO_20018001, HO_20018002, BK20001, BK20017, HB⟩ := hcut
   cases kq with
   | zero => exact absurd HA.out (by simp [examboardlaw53_UploadOnce.j3])
   | succ kj9 =>
    have H := HA.out
    clear HA
    simp only [examboardlaw53_UploadOnce.j3] at H
    have H' := am H
    clear H
    go_wp2
    go_loopg [19] kj9 (fun kq v19 w' => ∃ (x19_2 : Int), v19 = .int .i64 x19_2 ∧ Aside0 (examboardlaw53_UploadOnce.l2 kq t20005 x12_9 x19_2 x20018000_9 x20018001_9 x20018002_9 = some r) ∧ Aside0 (kq ≤ kj9) ∧ Aside0 (Kd.V (Kd.int .u8) 5 w' w.heap.size (fun k_ => some k_ ≠ (v20019 : Value).ownBlock ∧ some k_ ≠ (u20018001 : Value).ownBlock ∧ some k_ ≠ (u20018002 : Value).ownBlock ∧ k_ ≠ gb20001 ∧ k_ ≠ gb20017) (.slice Ao20 t20005.length co20) t20005) ∧ Aside0 (Kd.R Kd.bool 4 w' w.heap.size (fun _ => True) v20019 x12_9) ∧ Aside0 (Kd.R (Kd.int .u8) 5 w' w.heap.size (fun _ => True) u20018001 x20018001_9) ∧ Aside0 (Kd.N k25 25 w' w.heap.size (fun k_ => some k_ ≠ (v20019 : Value).ownBlock ∧ some k_ ≠ (u20018001 : Value).ownBlock ∧ k_ ≠ gb20001 ∧ k_ ≠ gb20017) u20018002 x20018002_9) ∧ Aside0 (w'.heap[gb20001]? = some (.cells #[.int .u8 a1_0, .int .u8 a1_1] 41 (0, 0))) ∧ Aside0 (w'.heap[gb20017]? = some (.cells #[.int .i64 x20018000_9, u20018001, u20018002] 34 (0, 0))) ∧ Aside0 (Below w.heap.size w w'))
    case atStart => exact ⟨(0), (by first | rfl | (simp; done) | (simp [*]; done)), H', ⟨Nat.le_refl _⟩, ⟨by (with_reducible repeat (first | apply Kd.V_alloc | apply Kd.V_drewN | apply Kd.V_drew)); exact HO_8.out⟩, ⟨by (with_reducible repeat (first | apply Kd.R_alloc | apply Kd.R_drewN | apply Kd.R_drew)); exact HO_12.out⟩, ⟨by (with_reducible repeat (first | apply Kd.R_alloc | apply Kd.R_drewN | apply Kd.R_drew)); exact HO_20018001.out⟩, ⟨by (with_reducible repeat (first | apply Kd.N_alloc | apply Kd.N_drewN | apply Kd.N_drew)); exact HO_20018002.out⟩, ⟨by (with_reducible repeat (first | refine blk_drewN ?_ _ | refine blk_drew ?_ | refine blk_alloc ?_ _)); exact BK20001.out⟩, ⟨by (with_reducible repeat (first | refine blk_drewN ?_ _ | refine blk_drew ?_ | refine blk_alloc ?_ _)); exact BK20017.out⟩, ⟨hz2 HB.out GE20001.out GE20017.out⟩⟩
    case round =>
     clear H'
     try clear c2
     try clear p2
     try clear q2
     try clear hx2
     try clear c3
     try clear c4
     try clear c5
     try clear c6
     try clear p6
     try clear q6
     try clear c7
     try clear p7
     try clear q7
     try clear hx7
     try clear hf7
     try clear c20
     try clear p20
     try clear q20
     try clear hx20
     try clear c21
     try clear c22
     try clear c23
     try clear c23b0
     try clear c24
     try clear c25
     try clear c29
     try clear c30
     try clear c30b0
     try clear c30b1
     try clear c30b2
     try clear c32
     try clear c32b0
     try clear c33
     try clear c33b0
     try clear c35
     try clear c35b0
     try clear c35b1
     try clear c37
     try clear c37b0
     try clear c37b1
     try clear c38
     try clear c38b0
     try clear c38b1
     try clear c39
     try clear c39b0
     try clear c39b1
     try clear c40
     try clear c40b0
     try clear c40b1
     try clear c42
     try clear c43
     try clear c43b0
     try clear c43b1
     try clear c46
     try clear c47
     try clear c49
     try clear c55
     try clear c56
     try clear c57
     try clear p64
     try clear q64
     try clear c68
     try clear c68b0
     try clear c70
     try clear c70b0
     try clear c71
     try clear c71b0
     try clear p72
     try clear q72
     try clear hx72
     try clear hf72
     try clear c73
     try clear c74
     try clear c75
     try clear hcz48_0
     try clear hcz48_1
     try clear hcz48_2
     try clear hcz48_3
     try clear hcz50_0
     try clear hcz50_1
     try clear hcz50_2
     try clear hcz58_0
     try clear hcz58_1
     try clear hcz58_2
     try clear hcz65_0
     try clear hcz65_1
     try clear hcz65_2
     try clear hcz66_0
     try clear hcz66_1
     try clear hcz66_2
     try clear hcz67_0
     try clear hcz67_1
     try clear hcz67_2
     try clear hcz67_3
     try clear hcz76_0
     try clear hcz76_1
     try clear hcz76_2
     try clear hcz76_3
     try clear hfz48_0
     try clear hfz48_1
     try clear hfz48_2
     try clear hfz48_3
     try clear hfz50_0
     try clear hfz50_1
     try clear hfz50_2
     try clear hfz58_0
     try clear hfz58_1
     try clear hfz58_2
     try clear hfz65_0
     try clear hfz65_1
     try clear hfz65_2
     try clear hfz66_0
     try clear hfz66_1
     try clear hfz66_2
     try clear hfz67_0
     try clear hfz67_1
     try clear hfz67_2
     try clear hfz67_3
     try clear hfz76_0
     try clear hfz76_1
     try clear hfz76_2
     try clear hfz76_3
     try clear hx20022_0
     try clear hx20022_1
     try clear hx20022_2
     try clear hx20022_3
     try clear hx72_0
     try clear p2
     try clear p20
     try clear p20022
     try clear p6
     try clear p64
     try clear p7
     try clear p72
     try clear q2
     try clear q20
     try clear q20022
     try clear q6
     try clear q64
     try clear q7
     try clear q72
     obtain ⟨x19_2, rfl, HA, HK2, HO_8, HO_12, HO_20018001, HO_20018002, BK20001, BK20017, HB⟩ := hrel
     cases gk with
     | zero => exact absurd HA.out (by simp [examboardlaw53_UploadOnce.l2])
     | succ k2 =>
      have H := HA.out
      clear HA
      simp only [examboardlaw53_UploadOnce.l2] at H
      by_cases c79 : x19_2 < (t20005.length : Int)
      ·
       rw [if_pos c79] at H
       have c79b0 : decide (x19_2 < (t20005.length : Int)) = true := decide_eq_true c79
       clear c79
       replace H := it_ H
       obtain ⟨c80, H⟩ := H
       have c80b0 : decide (0 ≤ x19_2) = true := decide_eq_true c80
       clear c80
       replace H := it_ H
       obtain ⟨c81, H⟩ := H
       have c81b0 : decide (x19_2 < (x12_9.length : Int)) = true := decide_eq_true c81
       clear c81
       obtain ⟨bq82, hbq82⟩ : ∃ b_ : Bool, b_ = (rdOf false x12_9 x19_2) := ⟨_, rfl⟩
       replace H : (if bq82 = true then (examboardlaw53_UploadOnce.l2 k2 t20005 x12_9 (wrap64 (x19_2 + 1)) x20018000_9 x20018001_9 x20018002_9) else (if (x20018001_9.length : Int) = x19_2 then ((examboardlaw53_awake.f k2).bind fun t20042 => (some t20042)) else (none))) = some r := by rw [← hbq82] at H; exact H
       have Nbq82 := am hbq82
       clear hbq82
       by_cases c83 : bq82 = true
       ·
        subst c83
        have H1 : (examboardlaw53_UploadOnce.l2 k2 t20005 x12_9 (wrap64 (x19_2 + 1)) x20018000_9 x20018001_9 x20018002_9) = some r := by rw [if_pos rfl] at H; exact H
        clear H
        have H := H1
        clear H1
        have H' := am H
        clear H
        obtain ⟨Ao84, co84, eo84⟩ := Kd.R_slice HO_12.out
        subst eo84
        have p20041 : 0 ≤ (x19_2 : Int) := of_decide_eq_true az
        have q20041 : x19_2 < (x12_9.length : Int) := of_decide_eq_true az
        obtain ⟨ad20041, e20041, hx20041_0⟩ := Kd.at_bool (Kd.R_reads' HO_12.out).2.2 x19_2 p20041 q20041
        (try rw [← Nbq82.out] at hx20041_0)
        cases e20041
        replace p20041 := eq_true p20041
        replace q20041 := eq_true q20041
        go_wp2
        go_roundg k2
        case measure => have := HJ9.out; have := HK2.out; omega
        case rel => exact ⟨(wrap64 (x19_2 + 1)), (by first | rfl | (simp; done) | (simp [*]; done)), H', ⟨by have := HJ9.out; have := HK2.out; omega⟩, ⟨by (with_reducible repeat (first | apply Kd.V_alloc | apply Kd.V_drewN | apply Kd.V_drew)); exact HO_8.out⟩, ⟨by (with_reducible repeat (first | apply Kd.R_alloc | apply Kd.R_drewN | apply Kd.R_drew)); exact HO_12.out⟩, ⟨by (with_reducible repeat (first | apply Kd.R_alloc | apply Kd.R_drewN | apply Kd.R_drew)); exact HO_20018001.out⟩, ⟨by (with_reducible repeat (first | apply Kd.N_alloc | apply Kd.N_drewN | apply Kd.N_drew)); exact HO_20018002.out⟩, ⟨by (with_reducible repeat (first | refine blk_drewN ?_ _ | refine blk_drew ?_ | refine blk_alloc ?_ _)); exact BK20001.out⟩, ⟨by (with_reducible repeat (first | refine blk_drewN ?_ _ | refine blk_drew ?_ | refine blk_alloc ?_ _)); exact BK20017.out⟩, ⟨hz2 HB.out GE20001.out GE20017.out⟩⟩
       ·
        replace c83 := Bool.eq_false_iff.mpr c83
        subst c83
        have H1 : (if (x20018001_9.length : Int) = x19_2 then ((examboardlaw53_awake.f k2).bind fun t20042 => (some t20042)) else (none)) = some r := by rw [if_neg (show ¬ (false = true) by decide)] at H; exact H
        clear H
        have H := H1
        clear H1
        replace H := it_ H
        obtain ⟨c85, H⟩ := H
        have c85b0 : ((x20018001_9.length : Int) == x19_2) = true := beq_iff_eq.mpr c85
        have c85b1 : ((x20018001_9.length : Int) != x19_2) = false := bne_eq_false_iff_eq.mpr c85
        clear c85
        replace H := Option.bind_eq_some_iff.mp H
        obtain ⟨t20042, A860, H⟩ := H
        replace H : (some t20042) = some r := H
        have A86 := am A860
        clear A860
        obtain rfl := Option.some.inj H
        obtain ⟨Ao87, co87, eo87⟩ := Kd.R_slice HO_12.out
        subst eo87
        have p20041 : 0 ≤ (x19_2 : Int) := of_decide_eq_true az
        have q20041 : x19_2 < (x12_9.length : Int) := of_decide_eq_true az
        obtain ⟨ad20041, e20041, hx20041_0⟩ := Kd.at_bool (Kd.R_reads' HO_12.out).2.2 x19_2 p20041 q20041
        (try rw [← Nbq82.out] at hx20041_0)
        cases e20041
        replace p20041 := eq_true p20041
        replace q20041 := eq_true q20041
        have hnb88 := NB20017_20001.out
        have hnc88 := NB20001_20017.out
        have hcz89_0 : wr.cell? ⟨gb20017, 0, none⟩ = some (.int .i64 x20018000_9) := (blk_cell BK20017.out 0).trans rfl
        have hcz89_1 : wr.cell? ⟨gb20017, 1, none⟩ = some (u20018001) := (blk_cell BK20017.out 1).trans rfl
        have hcz89_2 : wr.cell? ⟨gb20017, 2, none⟩ = some (u20018002) := (blk_cell BK20017.out 2).trans rfl
        have hfz89_0 := blk_frozen BK20017.out 0
        have hfz89_1 := blk_frozen BK20017.out 1
        have hfz89_2 := blk_frozen BK20017.out 2
        obtain ⟨Ao90, co90, eo90⟩ := Kd.R_slice HO_20018001.out
        subst eo90
        go_wp2_with (first | (go_at_call 18; (with_reducible refine (examboardlaw53_awake.calls k2  t20042 _ A86.out).mono ?_); rintro e w91 ⟨rfl, hb⟩; replace HO_8 := am (Kd.V_below (vz HO_8.out) hb); replace HO_12 := am (Kd.R_below (rz HO_12.out) hb); replace HO_20018001 := am (Kd.R_below (rz HO_20018001.out) hb); replace HO_20018002 := am (Kd.N_below (nz HO_20018002.out) hb); replace BK20001 := am (blk_below (bz BK20001.out) hb); replace BK20017 := am (blk_below (bz BK20017.out) hb); replace HB := am (below_step (hz2 HB.out GE20001.out GE20017.out) hb); (try clear hb); (try clear hb2); (try clear hk); (try clear hi)))
        go_ret
        exact ⟨ez, hz2 HB.out GE20001.out GE20017.out⟩
      ·
       rw [if_neg c79] at H
       have c79b0 : decide (x19_2 < (t20005.length : Int)) = false := decide_eq_false c79
       clear c79
       replace H := it_ H
       obtain ⟨c92, H⟩ := H
       have c92b0 : ((x20018001_9.length : Int) == x19_2) = true := beq_iff_eq.mpr c92
       have c92b1 : ((x20018001_9.length : Int) != x19_2) = false := bne_eq_false_iff_eq.mpr c92
       clear c92
       replace H := it_ H
       obtain ⟨c93, H⟩ := H
       have c93b0 : ((x20018002_9.length : Int) == 0) = true := beq_iff_eq.mpr c93
       have c93b1 : ((x20018002_9.length : Int) != 0) = false := bne_eq_false_iff_eq.mpr c93
       clear c93
       replace H := Option.bind_eq_some_iff.mp H
       obtain ⟨t20043, A940, H⟩ := H
       replace H : (some t20043) = some r := H
       have A94 := am A940
       clear A940
       obtain rfl := Option.some.inj H
       have hnb95 := NB20017_20001.out
       have hnc95 := NB20001_20017.out
       have hcz96_0 : wr.cell? ⟨gb20017, 0, none⟩ = some (.int .i64 x20018000_9) := (blk_cell BK20017.out 0).trans rfl
       have hcz96_1 : wr.cell? ⟨gb20017, 1, none⟩ = some (u20018001) := (blk_cell BK20017.out 1).trans rfl
       have hcz96_2 : wr.cell? ⟨gb20017, 2, none⟩ = some (u20018002) := (blk_cell BK20017.out 2).trans rfl
       have hfz96_0 := blk_frozen BK20017.out 0
       have hfz96_1 := blk_frozen BK20017.out 1
       have hfz96_2 := blk_frozen BK20017.out 2
       obtain ⟨Ao97, co97, eo97⟩ := Kd.R_slice HO_20018001.out
       subst eo97
       obtain ⟨Ao98, co98, eo98⟩ := Kd.N_slice HO_20018002.out
       subst eo98
       go_wp2_with (first | (go_at_call 18; (with_reducible refine (examboardlaw53_awake.calls k2  t20043 _ A94.out).mono ?_); rintro e w99 ⟨rfl, hb⟩; replace HO_8 := am (Kd.V_below (vz HO_8.out) hb); replace HO_12 := am (Kd.R_below (rz HO_12.out) hb); replace HO_20018001 := am (Kd.R_below (rz HO_20018001.out) hb); replace HO_20018002 := am (Kd.N_below (nz HO_20018002.out) hb); replace BK20001 := am (blk_below (bz BK20001.out) hb); replace BK20017 := am (blk_below (bz BK20017.out) hb); replace HB := am (below_step (hz2 HB.out GE20001.out GE20017.out) hb); (try clear hb); (try clear hb2); (try clear hk); (try clear hi)))
       go_ret
       exact ⟨ez, hz2 HB.out GE20001.out GE20017.out⟩
 ·
  replace c6 := Bool.eq_false_iff.mpr c6
  subst c6
  have H1 : (none) = some r := by rw [if_neg (show ¬ (false = true) by decide)] at H; exact H
  clear H
  have H := H1
  clear H1
  exact absurd H (by simp)

end Go.Proofs.Ytglpnbcockancaa.Q
