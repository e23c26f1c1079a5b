/- Made by wip/myprint.py of this session (it drives the kit's printer): what the calls of the Go functions come to, as plain Lean functions, and the row of a law over them; without conditions. -/
import Derived.Test.YteeggfnailpcpaaDoorQx0
import Derived.Test.YteeggfnailpcpaaDoorQx1
import Derived.Test.YteeggfnailpcpaaDoorQx5
import Derived.Test.YteeggfnailpcpaaDoorQx10
import Derived.Test.YteeggfnailpcpaaDoorQx12
import Derived.Test.YteeggfnailpcpaaDoorQx13
import Derived.Test.YteeggfnailpcpaaDoorQx21
namespace Go.Proofs.YteeggfnailpcpaaDoor.Q
open Go.RowKit Go.Proofs.YteeggfnailpcpaaDoorW.PrintWords Go.Proofs.YteeggfnailpcpaaDoorW.PrintLast Go.Proofs.YteeggfnailpcpaaDoorW.PrintMore
attribute [local go_sem] max2_int min2_int max_two min_two max_three min_three max_four min_four   -- for this text's walks alone
set_option linter.unusedVariables false
set_option linter.unusedSimpArgs false

/-! ### examboardlaw49_JournalAppend: function 7 -/
def examboardlaw49_JournalAppend.f (k : Nat) (l0 : List (S43)) : Option (Bool) := (examboardlaw49_written.f k l0).bind fun bt710 => (if bt710.2.2.2 = true then ((journal_Read.f k bt710.1).bind fun bt720 => ((journal_Last.f k bt710.1).bind fun bt725 => ((examboardlaw49_same.f k bt720.1 bt710.2.1).bind fun t727 => (if t727 = true then (if bt720.2.1 = (bt710.1.length : Int) then (if bt720.2.2 = 0 then (if bt725.2 = 0 then ((journal_Count.f k bt710.1).bind fun t728 => (if t728 = (bt710.2.1.length : Int) then (if (bt710.2.1.length : Int) = 0 then (if (bt710.1.length : Int) = 0 then ((digest_Of.f k ([] : List Int)).bind fun t729 => (if bt725.1 = t729 then ((examboardlaw49_awake.f k).bind fun t730 => (some t730)) else (none))) else (none)) else (if (bt710.2.2.1.length : Int) > 1 then (if 0 ≤ (wrap64 ((bt710.2.2.1.length : Int) - 2)) then (if (wrap64 ((bt710.2.2.1.length : Int) - 2)) < (bt710.2.2.1.length : Int) then (if 0 ≤ (rd bt710.2.2.1 (wrap64 ((bt710.2.2.1.length : Int) - 2))) then (if (rd bt710.2.2.1 (wrap64 ((bt710.2.2.1.length : Int) - 2))) ≤ (bt710.1.length : Int) then ((journal_Last.f k (bt710.1.take ((rd bt710.2.2.1 (wrap64 ((bt710.2.2.1.length : Int) - 2))) : Int).toNat)).bind fun bt737 => (if bt737.2 = 0 then (if (rd bt710.2.2.1 (wrap64 ((bt710.2.2.1.length : Int) - 2))) ≤ (wrap64 ((bt710.1.length : Int) - 8)) then (if (wrap64 ((bt710.1.length : Int) - 8)) ≤ (bt710.1.length : Int) then ((digest_Chain.f k bt737.1 ((bt710.1.take ((wrap64 ((bt710.1.length : Int) - 8)) : Int).toNat).drop ((rd bt710.2.2.1 (wrap64 ((bt710.2.2.1.length : Int) - 2))) : Int).toNat)).bind fun t744 => (if bt725.1 = t744 then ((examboardlaw49_awake.f k).bind fun t745 => (some t745)) else (none))) else (none)) else (none)) else (none))) else (none)) else (none)) else (none)) else (none)) else (if 0 ≤ (bt710.1.length : Int) then ((journal_Last.f k (bt710.1.take 0)).bind fun bt751 => (if bt751.2 = 0 then (if 0 ≤ (wrap64 ((bt710.1.length : Int) - 8)) then (if (wrap64 ((bt710.1.length : Int) - 8)) ≤ (bt710.1.length : Int) then ((digest_Chain.f k bt751.1 ((bt710.1.take ((wrap64 ((bt710.1.length : Int) - 8)) : Int).toNat).drop 0)).bind fun t758 => (if bt725.1 = t758 then ((examboardlaw49_awake.f k).bind fun t759 => (some t759)) else (none))) else (none)) else (none)) else (none))) else (none)))) else (none))) else (none)) else (none)) else (none)) else (none))))) else (none))
theorem examboardlaw49_JournalAppend.mono : ∀ a0 k, LeO (examboardlaw49_JournalAppend.f k a0) (examboardlaw49_JournalAppend.f (k + 1) a0) := by
 intro a0 k
 unfold examboardlaw49_JournalAppend.f
 repeat' first
   | (with_reducible exact digest_Chain.mono _ _ _)
   | (with_reducible exact digest_Of.mono _ _)
   | (with_reducible exact examboardlaw49_awake.mono _)
   | (with_reducible exact examboardlaw49_same.mono _ _ _)
   | (with_reducible exact examboardlaw49_written.mono _ _)
   | (with_reducible exact journal_Count.mono _ _)
   | (with_reducible exact journal_Last.mono _ _)
   | (with_reducible exact journal_Read.mono _ _)
   | (with_reducible exact LeO.refl _)
   | (with_reducible exact LeO.none _)
   | (with_reducible refine LeO.ite ?_ ?_)
   | (with_reducible refine LeO.bind ?_ (fun _ => ?_))
   | exact digest_Chain.mono _ _ _
   | exact digest_Of.mono _ _
   | exact examboardlaw49_awake.mono _
   | exact examboardlaw49_same.mono _ _ _
   | exact examboardlaw49_written.mono _ _
   | exact journal_Count.mono _ _
   | exact journal_Last.mono _ _
   | exact journal_Read.mono _ _
   | exact LeO.none _
   | refine LeO.ite ?_ ?_
   | refine LeO.bind ?_ (fun _ => ?_)
set_option maxHeartbeats 8000000 in
set_option maxRecDepth 100000 in
theorem examboardlaw49_JournalAppend.calls (k : Nat) (A0 : Option Addr) (c0 : Nat) (l0 : List (S43)) (r : Bool) (w : World) (hG : GlE w) (hr0 : Kd.C k43 w A0 l0.length l0) (hc0 : l0.length ≤ c0) (h : examboardlaw49_JournalAppend.f k l0 = some r) :
  Calls Tryd.prog 7 #[.slice A0 l0.length c0] w fun e w' => e = .returned (.bool r) ∧ Below w.heap.size w w' := by
 have HR0 := am hr0
 have HC0 := am hc0
 clear hr0 hc0
 have HG_ := am hG
 clear hG
 have HB := am (Below.refl w.heap.size w)
 have H : ((examboardlaw49_written.f k l0).bind fun bt710 => (if bt710.2.2.2 = true then ((journal_Read.f k bt710.1).bind fun bt720 => ((journal_Last.f k bt710.1).bind fun bt725 => ((examboardlaw49_same.f k bt720.1 bt710.2.1).bind fun t727 => (if t727 = true then (if bt720.2.1 = (bt710.1.length : Int) then (if bt720.2.2 = 0 then (if bt725.2 = 0 then ((journal_Count.f k bt710.1).bind fun t728 => (if t728 = (bt710.2.1.length : Int) then (if (bt710.2.1.length : Int) = 0 then (if (bt710.1.length : Int) = 0 then ((digest_Of.f k ([] : List Int)).bind fun t729 => (if bt725.1 = t729 then ((examboardlaw49_awake.f k).bind fun t730 => (some t730)) else (none))) else (none)) else (if (bt710.2.2.1.length : Int) > 1 then (if 0 ≤ (wrap64 ((bt710.2.2.1.length : Int) - 2)) then (if (wrap64 ((bt710.2.2.1.length : Int) - 2)) < (bt710.2.2.1.length : Int) then (if 0 ≤ (rd bt710.2.2.1 (wrap64 ((bt710.2.2.1.length : Int) - 2))) then (if (rd bt710.2.2.1 (wrap64 ((bt710.2.2.1.length : Int) - 2))) ≤ (bt710.1.length : Int) then ((journal_Last.f k (bt710.1.take ((rd bt710.2.2.1 (wrap64 ((bt710.2.2.1.length : Int) - 2))) : Int).toNat)).bind fun bt737 => (if bt737.2 = 0 then (if (rd bt710.2.2.1 (wrap64 ((bt710.2.2.1.length : Int) - 2))) ≤ (wrap64 ((bt710.1.length : Int) - 8)) then (if (wrap64 ((bt710.1.length : Int) - 8)) ≤ (bt710.1.length : Int) then ((digest_Chain.f k bt737.1 ((bt710.1.take ((wrap64 ((bt710.1.length : Int) - 8)) : Int).toNat).drop ((rd bt710.2.2.1 (wrap64 ((bt710.2.2.1.length : Int) - 2))) : Int).toNat)).bind fun t744 => (if bt725.1 = t744 then ((examboardlaw49_awake.f k).bind fun t745 => (some t745)) else (none))) else (none)) else (none)) else (none))) else (none)) else (none)) else (none)) else (none)) else (if 0 ≤ (bt710.1.length : Int) then ((journal_Last.f k (bt710.1.take 0)).bind fun bt751 => (if bt751.2 = 0 then (if 0 ≤ (wrap64 ((bt710.1.length : Int) - 8)) then (if (wrap64 ((bt710.1.length : Int) - 8)) ≤ (bt710.1.length : Int) then ((digest_Chain.f k bt751.1 ((bt710.1.take ((wrap64 ((bt710.1.length : Int) - 8)) : Int).toNat).drop 0)).bind fun t758 => (if bt725.1 = t758 then ((examboardlaw49_awake.f k).bind fun t759 => (some t759)) else (none))) else (none)) else (none)) else (none))) else (none)))) else (none))) else (none)) else (none)) else (none)) else (none))))) else (none))) = some r := h
 clear h
 replace H := Option.bind_eq_some_iff.mp H
 obtain ⟨⟨t710, t713, t716, t719⟩, A20, H⟩ := H
 replace H : (if t719 = true then ((journal_Read.f k t710).bind fun bt720 => ((journal_Last.f k t710).bind fun bt725 => ((examboardlaw49_same.f k bt720.1 t713).bind fun t727 => (if t727 = true then (if bt720.2.1 = (t710.length : Int) then (if bt720.2.2 = 0 then (if bt725.2 = 0 then ((journal_Count.f k t710).bind fun t728 => (if t728 = (t713.length : Int) then (if (t713.length : Int) = 0 then (if (t710.length : Int) = 0 then ((digest_Of.f k ([] : List Int)).bind fun t729 => (if bt725.1 = t729 then ((examboardlaw49_awake.f k).bind fun t730 => (some t730)) else (none))) else (none)) else (if (t716.length : Int) > 1 then (if 0 ≤ (wrap64 ((t716.length : Int) - 2)) then (if (wrap64 ((t716.length : Int) - 2)) < (t716.length : Int) then (if 0 ≤ (rd t716 (wrap64 ((t716.length : Int) - 2))) then (if (rd t716 (wrap64 ((t716.length : Int) - 2))) ≤ (t710.length : Int) then ((journal_Last.f k (t710.take ((rd t716 (wrap64 ((t716.length : Int) - 2))) : Int).toNat)).bind fun bt737 => (if bt737.2 = 0 then (if (rd t716 (wrap64 ((t716.length : Int) - 2))) ≤ (wrap64 ((t710.length : Int) - 8)) then (if (wrap64 ((t710.length : Int) - 8)) ≤ (t710.length : Int) then ((digest_Chain.f k bt737.1 ((t710.take ((wrap64 ((t710.length : Int) - 8)) : Int).toNat).drop ((rd t716 (wrap64 ((t716.length : Int) - 2))) : Int).toNat)).bind fun t744 => (if bt725.1 = t744 then ((examboardlaw49_awake.f k).bind fun t745 => (some t745)) else (none))) else (none)) else (none)) else (none))) else (none)) else (none)) else (none)) else (none)) else (if 0 ≤ (t710.length : Int) then ((journal_Last.f k (t710.take 0)).bind fun bt751 => (if bt751.2 = 0 then (if 0 ≤ (wrap64 ((t710.length : Int) - 8)) then (if (wrap64 ((t710.length : Int) - 8)) ≤ (t710.length : Int) then ((digest_Chain.f k bt751.1 ((t710.take ((wrap64 ((t710.length : Int) - 8)) : Int).toNat).drop 0)).bind fun t758 => (if bt725.1 = t758 then ((examboardlaw49_awake.f k).bind fun t759 => (some t759)) else (none))) else (none)) else (none)) else (none))) else (none)))) else (none))) else (none)) else (none)) else (none)) else (none))))) else (none)) = some r := H
 have A2 := am A20
 clear A20
 by_cases c3 : t719 = true
 ·
  subst c3
  have H1 : ((journal_Read.f k t710).bind fun bt720 => ((journal_Last.f k t710).bind fun bt725 => ((examboardlaw49_same.f k bt720.1 t713).bind fun t727 => (if t727 = true then (if bt720.2.1 = (t710.length : Int) then (if bt720.2.2 = 0 then (if bt725.2 = 0 then ((journal_Count.f k t710).bind fun t728 => (if t728 = (t713.length : Int) then (if (t713.length : Int) = 0 then (if (t710.length : Int) = 0 then ((digest_Of.f k ([] : List Int)).bind fun t729 => (if bt725.1 = t729 then ((examboardlaw49_awake.f k).bind fun t730 => (some t730)) else (none))) else (none)) else (if (t716.length : Int) > 1 then (if 0 ≤ (wrap64 ((t716.length : Int) - 2)) then (if (wrap64 ((t716.length : Int) - 2)) < (t716.length : Int) then (if 0 ≤ (rd t716 (wrap64 ((t716.length : Int) - 2))) then (if (rd t716 (wrap64 ((t716.length : Int) - 2))) ≤ (t710.length : Int) then ((journal_Last.f k (t710.take ((rd t716 (wrap64 ((t716.length : Int) - 2))) : Int).toNat)).bind fun bt737 => (if bt737.2 = 0 then (if (rd t716 (wrap64 ((t716.length : Int) - 2))) ≤ (wrap64 ((t710.length : Int) - 8)) then (if (wrap64 ((t710.length : Int) - 8)) ≤ (t710.length : Int) then ((digest_Chain.f k bt737.1 ((t710.take ((wrap64 ((t710.length : Int) - 8)) : Int).toNat).drop ((rd t716 (wrap64 ((t716.length : Int) - 2))) : Int).toNat)).bind fun t744 => (if bt725.1 = t744 then ((examboardlaw49_awake.f k).bind fun t745 => (some t745)) else (none))) else (none)) else (none)) else (none))) else (none)) else (none)) else (none)) else (none)) else (if 0 ≤ (t710.length : Int) then ((journal_Last.f k (t710.take 0)).bind fun bt751 => (if bt751.2 = 0 then (if 0 ≤ (wrap64 ((t710.length : Int) - 8)) then (if (wrap64 ((t710.length : Int) - 8)) ≤ (t710.length : Int) then ((digest_Chain.f k bt751.1 ((t710.take ((wrap64 ((t710.length : Int) - 8)) : Int).toNat).drop 0)).bind fun t758 => (if bt725.1 = t758 then ((examboardlaw49_awake.f k).bind fun t759 => (some t759)) else (none))) else (none)) else (none)) else (none))) else (none)))) else (none))) else (none)) else (none)) else (none)) else (none))))) = some r := by rw [if_pos rfl] at H; exact H
  clear H
  have H := H1
  clear H1
  replace H := Option.bind_eq_some_iff.mp H
  obtain ⟨⟨t720, t721, t722⟩, A40, H⟩ := H
  replace H : ((journal_Last.f k t710).bind fun bt725 => ((examboardlaw49_same.f k t720 t713).bind fun t727 => (if t727 = true then (if t721 = (t710.length : Int) then (if t722 = 0 then (if bt725.2 = 0 then ((journal_Count.f k t710).bind fun t728 => (if t728 = (t713.length : Int) then (if (t713.length : Int) = 0 then (if (t710.length : Int) = 0 then ((digest_Of.f k ([] : List Int)).bind fun t729 => (if bt725.1 = t729 then ((examboardlaw49_awake.f k).bind fun t730 => (some t730)) else (none))) else (none)) else (if (t716.length : Int) > 1 then (if 0 ≤ (wrap64 ((t716.length : Int) - 2)) then (if (wrap64 ((t716.length : Int) - 2)) < (t716.length : Int) then (if 0 ≤ (rd t716 (wrap64 ((t716.length : Int) - 2))) then (if (rd t716 (wrap64 ((t716.length : Int) - 2))) ≤ (t710.length : Int) then ((journal_Last.f k (t710.take ((rd t716 (wrap64 ((t716.length : Int) - 2))) : Int).toNat)).bind fun bt737 => (if bt737.2 = 0 then (if (rd t716 (wrap64 ((t716.length : Int) - 2))) ≤ (wrap64 ((t710.length : Int) - 8)) then (if (wrap64 ((t710.length : Int) - 8)) ≤ (t710.length : Int) then ((digest_Chain.f k bt737.1 ((t710.take ((wrap64 ((t710.length : Int) - 8)) : Int).toNat).drop ((rd t716 (wrap64 ((t716.length : Int) - 2))) : Int).toNat)).bind fun t744 => (if bt725.1 = t744 then ((examboardlaw49_awake.f k).bind fun t745 => (some t745)) else (none))) else (none)) else (none)) else (none))) else (none)) else (none)) else (none)) else (none)) else (if 0 ≤ (t710.length : Int) then ((journal_Last.f k (t710.take 0)).bind fun bt751 => (if bt751.2 = 0 then (if 0 ≤ (wrap64 ((t710.length : Int) - 8)) then (if (wrap64 ((t710.length : Int) - 8)) ≤ (t710.length : Int) then ((digest_Chain.f k bt751.1 ((t710.take ((wrap64 ((t710.length : Int) - 8)) : Int).toNat).drop 0)).bind fun t758 => (if bt725.1 = t758 then ((examboardlaw49_awake.f k).bind fun t759 => (some t759)) else (none))) else (none)) else (none)) else (none))) else (none)))) else (none))) else (none)) else (none)) else (none)) else (none)))) = some r := H
  have A4 := am A40
  clear A40
  replace H := Option.bind_eq_some_iff.mp H
  obtain ⟨⟨t725, t726⟩, A50, H⟩ := H
  replace H : ((examboardlaw49_same.f k t720 t713).bind fun t727 => (if t727 = true then (if t721 = (t710.length : Int) then (if t722 = 0 then (if t726 = 0 then ((journal_Count.f k t710).bind fun t728 => (if t728 = (t713.length : Int) then (if (t713.length : Int) = 0 then (if (t710.length : Int) = 0 then ((digest_Of.f k ([] : List Int)).bind fun t729 => (if t725 = t729 then ((examboardlaw49_awake.f k).bind fun t730 => (some t730)) else (none))) else (none)) else (if (t716.length : Int) > 1 then (if 0 ≤ (wrap64 ((t716.length : Int) - 2)) then (if (wrap64 ((t716.length : Int) - 2)) < (t716.length : Int) then (if 0 ≤ (rd t716 (wrap64 ((t716.length : Int) - 2))) then (if (rd t716 (wrap64 ((t716.length : Int) - 2))) ≤ (t710.length : Int) then ((journal_Last.f k (t710.take ((rd t716 (wrap64 ((t716.length : Int) - 2))) : Int).toNat)).bind fun bt737 => (if bt737.2 = 0 then (if (rd t716 (wrap64 ((t716.length : Int) - 2))) ≤ (wrap64 ((t710.length : Int) - 8)) then (if (wrap64 ((t710.length : Int) - 8)) ≤ (t710.length : Int) then ((digest_Chain.f k bt737.1 ((t710.take ((wrap64 ((t710.length : Int) - 8)) : Int).toNat).drop ((rd t716 (wrap64 ((t716.length : Int) - 2))) : Int).toNat)).bind fun t744 => (if t725 = t744 then ((examboardlaw49_awake.f k).bind fun t745 => (some t745)) else (none))) else (none)) else (none)) else (none))) else (none)) else (none)) else (none)) else (none)) else (if 0 ≤ (t710.length : Int) then ((journal_Last.f k (t710.take 0)).bind fun bt751 => (if bt751.2 = 0 then (if 0 ≤ (wrap64 ((t710.length : Int) - 8)) then (if (wrap64 ((t710.length : Int) - 8)) ≤ (t710.length : Int) then ((digest_Chain.f k bt751.1 ((t710.take ((wrap64 ((t710.length : Int) - 8)) : Int).toNat).drop 0)).bind fun t758 => (if t725 = t758 then ((examboardlaw49_awake.f k).bind fun t759 => (some t759)) else (none))) else (none)) else (none)) else (none))) else (none)))) else (none))) else (none)) else (none)) else (none)) else (none))) = some r := H
  have A5 := am A50
  clear A50
  replace H := Option.bind_eq_some_iff.mp H
  obtain ⟨t727, A60, H⟩ := H
  replace H : (if t727 = true then (if t721 = (t710.length : Int) then (if t722 = 0 then (if t726 = 0 then ((journal_Count.f k t710).bind fun t728 => (if t728 = (t713.length : Int) then (if (t713.length : Int) = 0 then (if (t710.length : Int) = 0 then ((digest_Of.f k ([] : List Int)).bind fun t729 => (if t725 = t729 then ((examboardlaw49_awake.f k).bind fun t730 => (some t730)) else (none))) else (none)) else (if (t716.length : Int) > 1 then (if 0 ≤ (wrap64 ((t716.length : Int) - 2)) then (if (wrap64 ((t716.length : Int) - 2)) < (t716.length : Int) then (if 0 ≤ (rd t716 (wrap64 ((t716.length : Int) - 2))) then (if (rd t716 (wrap64 ((t716.length : Int) - 2))) ≤ (t710.length : Int) then ((journal_Last.f k (t710.take ((rd t716 (wrap64 ((t716.length : Int) - 2))) : Int).toNat)).bind fun bt737 => (if bt737.2 = 0 then (if (rd t716 (wrap64 ((t716.length : Int) - 2))) ≤ (wrap64 ((t710.length : Int) - 8)) then (if (wrap64 ((t710.length : Int) - 8)) ≤ (t710.length : Int) then ((digest_Chain.f k bt737.1 ((t710.take ((wrap64 ((t710.length : Int) - 8)) : Int).toNat).drop ((rd t716 (wrap64 ((t716.length : Int) - 2))) : Int).toNat)).bind fun t744 => (if t725 = t744 then ((examboardlaw49_awake.f k).bind fun t745 => (some t745)) else (none))) else (none)) else (none)) else (none))) else (none)) else (none)) else (none)) else (none)) else (if 0 ≤ (t710.length : Int) then ((journal_Last.f k (t710.take 0)).bind fun bt751 => (if bt751.2 = 0 then (if 0 ≤ (wrap64 ((t710.length : Int) - 8)) then (if (wrap64 ((t710.length : Int) - 8)) ≤ (t710.length : Int) then ((digest_Chain.f k bt751.1 ((t710.take ((wrap64 ((t710.length : Int) - 8)) : Int).toNat).drop 0)).bind fun t758 => (if t725 = t758 then ((examboardlaw49_awake.f k).bind fun t759 => (some t759)) else (none))) else (none)) else (none)) else (none))) else (none)))) else (none))) else (none)) else (none)) else (none)) else (none)) = some r := H
  have A6 := am A60
  clear A60
  by_cases c7 : t727 = true
  ·
   subst c7
   have H1 : (if t721 = (t710.length : Int) then (if t722 = 0 then (if t726 = 0 then ((journal_Count.f k t710).bind fun t728 => (if t728 = (t713.length : Int) then (if (t713.length : Int) = 0 then (if (t710.length : Int) = 0 then ((digest_Of.f k ([] : List Int)).bind fun t729 => (if t725 = t729 then ((examboardlaw49_awake.f k).bind fun t730 => (some t730)) else (none))) else (none)) else (if (t716.length : Int) > 1 then (if 0 ≤ (wrap64 ((t716.length : Int) - 2)) then (if (wrap64 ((t716.length : Int) - 2)) < (t716.length : Int) then (if 0 ≤ (rd t716 (wrap64 ((t716.length : Int) - 2))) then (if (rd t716 (wrap64 ((t716.length : Int) - 2))) ≤ (t710.length : Int) then ((journal_Last.f k (t710.take ((rd t716 (wrap64 ((t716.length : Int) - 2))) : Int).toNat)).bind fun bt737 => (if bt737.2 = 0 then (if (rd t716 (wrap64 ((t716.length : Int) - 2))) ≤ (wrap64 ((t710.length : Int) - 8)) then (if (wrap64 ((t710.length : Int) - 8)) ≤ (t710.length : Int) then ((digest_Chain.f k bt737.1 ((t710.take ((wrap64 ((t710.length : Int) - 8)) : Int).toNat).drop ((rd t716 (wrap64 ((t716.length : Int) - 2))) : Int).toNat)).bind fun t744 => (if t725 = t744 then ((examboardlaw49_awake.f k).bind fun t745 => (some t745)) else (none))) else (none)) else (none)) else (none))) else (none)) else (none)) else (none)) else (none)) else (if 0 ≤ (t710.length : Int) then ((journal_Last.f k (t710.take 0)).bind fun bt751 => (if bt751.2 = 0 then (if 0 ≤ (wrap64 ((t710.length : Int) - 8)) then (if (wrap64 ((t710.length : Int) - 8)) ≤ (t710.length : Int) then ((digest_Chain.f k bt751.1 ((t710.take ((wrap64 ((t710.length : Int) - 8)) : Int).toNat).drop 0)).bind fun t758 => (if t725 = t758 then ((examboardlaw49_awake.f k).bind fun t759 => (some t759)) else (none))) else (none)) else (none)) else (none))) else (none)))) else (none))) else (none)) else (none)) else (none)) = some r := by rw [if_pos rfl] at H; exact H
   clear H
   have H := H1
   clear H1
   replace H := it_ H
   obtain ⟨c8, H⟩ := H
   have c8b0 : (t721 == (t710.length : Int)) = true := beq_iff_eq.mpr c8
   have c8b1 : (t721 != (t710.length : Int)) = false := bne_eq_false_iff_eq.mpr c8
   clear c8
   replace H := it_ H
   obtain ⟨c9, H⟩ := H
   have c9b0 : (t722 == 0) = true := beq_iff_eq.mpr c9
   have c9b1 : (t722 != 0) = false := bne_eq_false_iff_eq.mpr c9
   clear c9
   replace H := it_ H
   obtain ⟨c10, H⟩ := H
   have c10b0 : (t726 == 0) = true := beq_iff_eq.mpr c10
   have c10b1 : (t726 != 0) = false := bne_eq_false_iff_eq.mpr c10
   clear c10
   replace H := Option.bind_eq_some_iff.mp H
   obtain ⟨t728, A110, H⟩ := H
   replace H : (if t728 = (t713.length : Int) then (if (t713.length : Int) = 0 then (if (t710.length : Int) = 0 then ((digest_Of.f k ([] : List Int)).bind fun t729 => (if t725 = t729 then ((examboardlaw49_awake.f k).bind fun t730 => (some t730)) else (none))) else (none)) else (if (t716.length : Int) > 1 then (if 0 ≤ (wrap64 ((t716.length : Int) - 2)) then (if (wrap64 ((t716.length : Int) - 2)) < (t716.length : Int) then (if 0 ≤ (rd t716 (wrap64 ((t716.length : Int) - 2))) then (if (rd t716 (wrap64 ((t716.length : Int) - 2))) ≤ (t710.length : Int) then ((journal_Last.f k (t710.take ((rd t716 (wrap64 ((t716.length : Int) - 2))) : Int).toNat)).bind fun bt737 => (if bt737.2 = 0 then (if (rd t716 (wrap64 ((t716.length : Int) - 2))) ≤ (wrap64 ((t710.length : Int) - 8)) then (if (wrap64 ((t710.length : Int) - 8)) ≤ (t710.length : Int) then ((digest_Chain.f k bt737.1 ((t710.take ((wrap64 ((t710.length : Int) - 8)) : Int).toNat).drop ((rd t716 (wrap64 ((t716.length : Int) - 2))) : Int).toNat)).bind fun t744 => (if t725 = t744 then ((examboardlaw49_awake.f k).bind fun t745 => (some t745)) else (none))) else (none)) else (none)) else (none))) else (none)) else (none)) else (none)) else (none)) else (if 0 ≤ (t710.length : Int) then ((journal_Last.f k (t710.take 0)).bind fun bt751 => (if bt751.2 = 0 then (if 0 ≤ (wrap64 ((t710.length : Int) - 8)) then (if (wrap64 ((t710.length : Int) - 8)) ≤ (t710.length : Int) then ((digest_Chain.f k bt751.1 ((t710.take ((wrap64 ((t710.length : Int) - 8)) : Int).toNat).drop 0)).bind fun t758 => (if t725 = t758 then ((examboardlaw49_awake.f k).bind fun t759 => (some t759)) else (none))) else (none)) else (none)) else (none))) else (none)))) else (none)) = some r := H
   have A11 := am A110
   clear A110
   replace H := it_ H
   obtain ⟨c12, H⟩ := H
   have c12b0 : (t728 == (t713.length : Int)) = true := beq_iff_eq.mpr c12
   have c12b1 : (t728 != (t713.length : Int)) = false := bne_eq_false_iff_eq.mpr c12
   clear c12
   by_cases c13 : (t713.length : Int) = 0
   ·
    rw [if_pos c13] at H
    have c13b0 : ((t713.length : Int) == 0) = true := beq_iff_eq.mpr c13
    have c13b1 : ((t713.length : Int) != 0) = false := bne_eq_false_iff_eq.mpr c13
    clear c13
    replace H := it_ H
    obtain ⟨c14, H⟩ := H
    have c14b0 : ((t710.length : Int) == 0) = true := beq_iff_eq.mpr c14
    have c14b1 : ((t710.length : Int) != 0) = false := bne_eq_false_iff_eq.mpr c14
    clear c14
    replace H := Option.bind_eq_some_iff.mp H
    obtain ⟨t729, A150, H⟩ := H
    replace H : (if t725 = t729 then ((examboardlaw49_awake.f k).bind fun t730 => (some t730)) else (none)) = some r := H
    have A15 := am A150
    clear A150
    replace H := it_ H
    obtain ⟨c16, H⟩ := H
    have c16b0 : (t725 == t729) = true := beq_iff_eq.mpr c16
    have c16b1 : (t725 != t729) = false := bne_eq_false_iff_eq.mpr c16
    clear c16
    replace H := Option.bind_eq_some_iff.mp H
    obtain ⟨t730, A170, H⟩ := H
    replace H : (some t730) = some r := H
    have A17 := am A170
    clear A170
    obtain rfl := Option.some.inj H
    go_enter Tryd.func7, Tryd.ntmps7
    go_wp2_with (first | ((with_reducible refine gate_callee (f := 9) rfl ?_); refine goesL_ (some 17) rfl rfl Tryd.func9 (by kernel_rfl) rfl #[.slice A0 l0.length c0] rfl lz ?_; (with_reducible refine (examboardlaw49_written.calls k (fun k_ => k_ < w.heap.size) _ _ l0 t710 t713 t716 true _ ?sideG ?side1 A2.out).mono ?_); (case sideG => exact gle HG_.out (hz HB.out)); (case side1 => exact Kd.V_mk HC0.out (Kd.F_below (Kd.C_F k43_heap HR0.out) (hz HB.out))); rintro e w18 ⟨v711, v714, v717, rfl, ho0, ho1, ho2, hb⟩; refine ⟨_, rfl, ?_⟩; have HO712 := am (Kd.R_lower (Kd.R_mono (ok' := fun k_ => True) ho0 (fun _ hk_ => trivial)) (below_size (hz HB.out))); have HO715 := am (Kd.N_lower (Kd.N_mono (ok' := fun k_ => some k_ ≠ (v711 : Value).ownBlock ∧ some k_ ≠ (v717 : Value).ownBlock) ho1 (fun k_ hk_ => ⟨hk_.2.1, hk_.2.2⟩)) (below_size (hz HB.out))); have HO718 := am (Kd.R_lower (Kd.R_mono (ok' := fun k_ => True) ho2 (fun _ hk_ => trivial)) (below_size (hz HB.out))); replace HB := am (below_step (hz HB.out) hb); (try clear hb); (try clear hk); (try clear hi); (try clear ho0); (try clear ho1); (try clear ho2); obtain ⟨Ao19, co19, eo19⟩ := Kd.R_slice HO712.out; subst eo19) | ((with_reducible refine gate_callee (f := 11) rfl ?_); refine goesL_ (some 26) rfl rfl Tryd.func11 (by kernel_rfl) rfl #[.slice Ao19 t710.length co19] rfl lz ?_; (with_reducible refine (journal_Read.calls k _ _ t710 t720 t721 t722 _ ?sideG ?side1 ?side2 A4.out).mono ?_); (case sideG => exact gle HG_.out (hz HB.out)); (case side1 => repeat (first | exact (Kd.R_reads' HO712.out).2.2 | (with_reducible refine Kd.C_alloc ?_ _) | (with_reducible refine Kd.C_drewN ?_ _) | (with_reducible refine Kd.C_drew ?_))); (case side2 => exact (Kd.R_reads' HO712.out).2.1); rintro e w20 ⟨v723, rfl, ho0, hb⟩; refine ⟨_, rfl, ?_⟩; have HO724 := am (Kd.N_lower (Kd.N_mono (ok' := fun k_ => some k_ ≠ (.slice Ao19 t710.length co19 : Value).ownBlock ∧ some k_ ≠ (v714 : Value).ownBlock ∧ some k_ ≠ (v717 : Value).ownBlock) (Kd.R_N (Kd.R_bound ho0)) (fun k_ hk_ => ⟨(Kd.fresh' (Kd.R_lt (rz HO712.out)) k_ hk_.2.1), (Kd.fresh' (Kd.N_lt (nz HO715.out)) k_ hk_.2.1), (Kd.fresh' (Kd.R_lt (rz HO718.out)) k_ hk_.2.1)⟩)) (below_size (hz HB.out))); replace HO712 := am (Kd.R_below (rz HO712.out) hb); replace HO715 := am (Kd.N_elder' (nz HO715.out) (Kd.R_base ho0) hb); replace HO718 := am (Kd.R_below (rz HO718.out) hb); replace HB := am (below_step (hz HB.out) hb); (try clear hb); (try clear hk); (try clear hi); (try clear ho0)) | ((with_reducible refine gate_callee (f := 18) rfl ?_); refine goesL_ (some 32) rfl rfl Tryd.func18 (by kernel_rfl) rfl #[.slice Ao19 t710.length co19] rfl lz ?_; (with_reducible refine (journal_Last.calls k _ _ t710 t725 t726 _ ?sideG ?side1 ?side2 A5.out).mono ?_); (case sideG => exact gle HG_.out (hz HB.out)); (case side1 => repeat (first | exact (Kd.R_reads' HO712.out).2.2 | (with_reducible refine Kd.C_alloc ?_ _) | (with_reducible refine Kd.C_drewN ?_ _) | (with_reducible refine Kd.C_drew ?_))); (case side2 => exact (Kd.R_reads' HO712.out).2.1); rintro e w21 ⟨rfl, hb⟩; refine ⟨_, rfl, ?_⟩; replace HO712 := am (Kd.R_below (rz HO712.out) hb); replace HO715 := am (Kd.N_below (nz HO715.out) hb); replace HO718 := am (Kd.R_below (rz HO718.out) hb); replace HO724 := am (Kd.N_below (nz HO724.out) hb); replace HB := am (below_step (hz HB.out) hb); (try clear hb); (try clear hk); (try clear hi); obtain ⟨Ao22, co22, eo22⟩ := Kd.N_slice HO724.out; subst eo22; obtain ⟨Ao23, co23, eo23⟩ := Kd.N_slice HO715.out; subst eo23) | ((with_reducible refine gate_callee (f := 12) rfl ?_); refine goesL_ (some 37) rfl rfl Tryd.func12 (by kernel_rfl) rfl #[.slice Ao22 t720.length co22, .slice Ao23 t713.length co23] rfl lz ?_; (with_reducible refine (examboardlaw49_same.calls k _ _ t720 _ _ t713 true _ ?side1 ?side2 ?side3 ?side4 A6.out).mono ?_); (case side1 => repeat (first | exact (Kd.N_reads' HO724.out).2.2 | (with_reducible refine Kd.C_alloc ?_ _) | (with_reducible refine Kd.C_drewN ?_ _) | (with_reducible refine Kd.C_drew ?_))); (case side2 => exact (Kd.N_reads' HO724.out).2.1); (case side3 => repeat (first | exact (Kd.N_reads' HO715.out).2.2 | (with_reducible refine Kd.C_alloc ?_ _) | (with_reducible refine Kd.C_drewN ?_ _) | (with_reducible refine Kd.C_drew ?_))); (case side4 => exact (Kd.N_reads' HO715.out).2.1); rintro e w24 ⟨rfl, hb⟩; refine ⟨_, rfl, ?_⟩; replace HO712 := am (Kd.R_below (rz HO712.out) hb); replace HO715 := am (Kd.N_below (nz HO715.out) hb); replace HO718 := am (Kd.R_below (rz HO718.out) hb); replace HO724 := am (Kd.N_below (nz HO724.out) hb); replace HB := am (below_step (hz HB.out) hb); (try clear hb); (try clear hk); (try clear hi)) | (go_at_call 15; (with_reducible refine (journal_Count.calls k _ _ t710 t728 _ ?side1 ?side2 A11.out).mono ?_); (case side1 => repeat (first | exact (Kd.R_reads' HO712.out).2.2 | (with_reducible refine Kd.C_alloc ?_ _) | (with_reducible refine Kd.C_drewN ?_ _) | (with_reducible refine Kd.C_drew ?_))); (case side2 => exact (Kd.R_reads' HO712.out).2.1); rintro e w25 ⟨rfl, hb⟩; replace HO712 := am (Kd.R_below (rz HO712.out) hb); replace HO715 := am (Kd.N_below (nz HO715.out) hb); replace HO718 := am (Kd.R_below (rz HO718.out) hb); replace HO724 := am (Kd.N_below (nz HO724.out) hb); replace HB := am (below_step (hz HB.out) hb); (try clear hb); (try clear hk); (try clear hi)) | (go_at_call 25; (refine (digest_Of.calls k _ _ ([] : List Int) t729 _ ?side1 ?side2 A15.out).mono ?_); (case side1 => exact Kd.C_nil _ _); (case side2 => exact Nat.le_refl _); rintro e w' ⟨rfl, ⟨nd, rfl⟩⟩) | (go_at_call 16; (with_reducible refine (examboardlaw49_awake.calls k  t730 _ ?sideG A17.out).mono ?_); (case sideG => exact gle HG_.out (hz HB.out)); rintro e w26 ⟨rfl, hb⟩; replace HO712 := am (Kd.R_below (rz HO712.out) hb); replace HO715 := am (Kd.N_below (nz HO715.out) hb); replace HO718 := am (Kd.R_below (rz HO718.out) hb); replace HO724 := am (Kd.N_below (nz HO724.out) hb); replace HB := am (below_step (hz HB.out) hb); (try clear hb); (try clear hk); (try clear hi)))
    go_ret
    exact ⟨ez, hz HB.out⟩
   ·
    rw [if_neg c13] at H
    have c13b0 : ((t713.length : Int) == 0) = false := beq_eq_false_iff_ne.mpr c13
    have c13b1 : ((t713.length : Int) != 0) = true := bne_iff_ne.mpr c13
    have c13b2 : ¬ (t713 = []) := fun h_ => c13 (by rw [h_]; rfl)
    by_cases c27 : (t716.length : Int) > 1
    ·
     rw [if_pos c27] at H
     have c27b0 : decide (1 < (t716.length : Int)) = true := decide_eq_true c27
     have c27b1 : decide (1 < t716.length) = true := decide_eq_true (by omega)
     clear c27
     obtain ⟨ji28, hji28⟩ : ∃ j_ : Int, (wrap64 ((t716.length : Int) - 2)) = j_ := ⟨_, rfl⟩
     replace H : (if 0 ≤ (ji28) then (if (ji28) < (t716.length : Int) then (if 0 ≤ (rd t716 (ji28)) then (if (rd t716 (ji28)) ≤ (t710.length : Int) then ((journal_Last.f k (t710.take ((rd t716 (ji28)) : Int).toNat)).bind fun bt737 => (if bt737.2 = 0 then (if (rd t716 (ji28)) ≤ (wrap64 ((t710.length : Int) - 8)) then (if (wrap64 ((t710.length : Int) - 8)) ≤ (t710.length : Int) then ((digest_Chain.f k bt737.1 ((t710.take ((wrap64 ((t710.length : Int) - 8)) : Int).toNat).drop ((rd t716 (ji28)) : Int).toNat)).bind fun t744 => (if t725 = t744 then ((examboardlaw49_awake.f k).bind fun t745 => (some t745)) else (none))) else (none)) else (none)) else (none))) else (none)) else (none)) else (none)) else (none)) = some r := by first | (rw [hji28] at H; exact H) | (simp only [hji28] at H ⊢; exact H)
     (try rw [hji28] at A2)
     (try rw [hji28] at A4)
     (try rw [hji28] at A5)
     (try rw [hji28] at A6)
     (try rw [hji28] at A11)
     have hji28w : (IntKind.i64.wrap ((t716.length : Int) - 2)) = ji28 := (i64_w _).trans hji28
     replace H := it_ H
     obtain ⟨c29, H⟩ := H
     have c29b0 : decide (0 ≤ (ji28)) = true := decide_eq_true c29
     clear c29
     replace H := it_ H
     obtain ⟨c30, H⟩ := H
     have c30b0 : decide ((ji28) < (t716.length : Int)) = true := decide_eq_true c30
     clear c30
     replace H := it_ H
     obtain ⟨c31, H⟩ := H
     have c31b0 := eq_true c31
     have c31b1 : decide (0 ≤ (rd t716 (ji28))) = true := decide_eq_true c31
     clear c31
     replace H := it_ H
     obtain ⟨c32, H⟩ := H
     have c32b0 := eq_true c32
     have c32b1 : decide ((rd t716 (ji28)) ≤ (t710.length : Int)) = true := decide_eq_true c32
     clear c32
     obtain ⟨y732, hy732⟩ : ∃ y_ : List Int, y_ = (t710.take ((rd t716 (ji28)) : Int).toNat) := ⟨_, rfl⟩
     replace H : ((journal_Last.f k y732).bind fun bt737 => (if bt737.2 = 0 then (if (rd t716 (ji28)) ≤ (wrap64 ((t710.length : Int) - 8)) then (if (wrap64 ((t710.length : Int) - 8)) ≤ (t710.length : Int) then ((digest_Chain.f k bt737.1 ((t710.take ((wrap64 ((t710.length : Int) - 8)) : Int).toNat).drop ((rd t716 (ji28)) : Int).toNat)).bind fun t744 => (if t725 = t744 then ((examboardlaw49_awake.f k).bind fun t745 => (some t745)) else (none))) else (none)) else (none)) else (none))) = some r := by first | (rw [hy732]; with_reducible exact H) | (have H2_ := (Option.bind_some _ _).symm.trans H; rw [hy732]; with_reducible exact H2_) | (have H2_ := (Option.bind_some _ _).symm.trans H; with_reducible exact H2_) | with_reducible exact H | (rw [hy732]; exact H) | exact H
     have Ny732 := am hy732
     clear hy732
     replace H := Option.bind_eq_some_iff.mp H
     obtain ⟨⟨t737, t738⟩, A330, H⟩ := H
     replace H : (if t738 = 0 then (if (rd t716 (ji28)) ≤ (wrap64 ((t710.length : Int) - 8)) then (if (wrap64 ((t710.length : Int) - 8)) ≤ (t710.length : Int) then ((digest_Chain.f k t737 ((t710.take ((wrap64 ((t710.length : Int) - 8)) : Int).toNat).drop ((rd t716 (ji28)) : Int).toNat)).bind fun t744 => (if t725 = t744 then ((examboardlaw49_awake.f k).bind fun t745 => (some t745)) else (none))) else (none)) else (none)) else (none)) = some r := H
     have A33 := am A330
     clear A330
     replace H := it_ H
     obtain ⟨c34, H⟩ := H
     have c34b0 : (t738 == 0) = true := beq_iff_eq.mpr c34
     have c34b1 : (t738 != 0) = false := bne_eq_false_iff_eq.mpr c34
     clear c34
     have c35b0 := eq_true (of_decide_eq_true az : 0 ≤ (rd t716 (ji28)))
     replace H := it_ H
     obtain ⟨c36, H⟩ := H
     have c36b0 := eq_true c36
     have c36b1 : decide ((rd t716 (ji28)) ≤ (wrap64 ((t710.length : Int) - 8))) = true := decide_eq_true c36
     clear c36
     replace H := it_ H
     obtain ⟨c37, H⟩ := H
     have c37b0 := eq_true c37
     have c37b1 : decide ((wrap64 ((t710.length : Int) - 8)) ≤ (t710.length : Int)) = true := decide_eq_true c37
     clear c37
     obtain ⟨y739, hy739⟩ : ∃ y_ : List Int, y_ = ((t710.take ((wrap64 ((t710.length : Int) - 8)) : Int).toNat).drop ((rd t716 (ji28)) : Int).toNat) := ⟨_, rfl⟩
     replace H : ((digest_Chain.f k t737 y739).bind fun t744 => (if t725 = t744 then ((examboardlaw49_awake.f k).bind fun t745 => (some t745)) else (none))) = some r := by first | (rw [hy739]; with_reducible exact H) | (have H2_ := (Option.bind_some _ _).symm.trans H; rw [hy739]; with_reducible exact H2_) | (have H2_ := (Option.bind_some _ _).symm.trans H; with_reducible exact H2_) | with_reducible exact H | (rw [hy739]; exact H) | exact H
     have Ny739 := am hy739
     clear hy739
     replace H := Option.bind_eq_some_iff.mp H
     obtain ⟨t744, A380, H⟩ := H
     replace H : (if t725 = t744 then ((examboardlaw49_awake.f k).bind fun t745 => (some t745)) else (none)) = some r := H
     have A38 := am A380
     clear A380
     replace H := it_ H
     obtain ⟨c39, H⟩ := H
     have c39b0 : (t725 == t744) = true := beq_iff_eq.mpr c39
     have c39b1 : (t725 != t744) = false := bne_eq_false_iff_eq.mpr c39
     clear c39
     replace H := Option.bind_eq_some_iff.mp H
     obtain ⟨t745, A400, H⟩ := H
     replace H : (some t745) = some r := H
     have A40 := am A400
     clear A400
     obtain rfl := Option.some.inj H
     go_enter Tryd.func7, Tryd.ntmps7
     go_wp2_with (first | ((with_reducible refine gate_callee (f := 9) rfl ?_); refine goesL_ (some 17) rfl rfl Tryd.func9 (by kernel_rfl) rfl #[.slice A0 l0.length c0] rfl lz ?_; (with_reducible refine (examboardlaw49_written.calls k (fun k_ => k_ < w.heap.size) _ _ l0 t710 t713 t716 true _ ?sideG ?side1 A2.out).mono ?_); (case sideG => exact gle HG_.out (hz HB.out)); (case side1 => exact Kd.V_mk HC0.out (Kd.F_below (Kd.C_F k43_heap HR0.out) (hz HB.out))); rintro e w41 ⟨v711, v714, v717, rfl, ho0, ho1, ho2, hb⟩; refine ⟨_, rfl, ?_⟩; have HO712 := am (Kd.R_lower (Kd.R_mono (ok' := fun k_ => True) ho0 (fun _ hk_ => trivial)) (below_size (hz HB.out))); have HO715 := am (Kd.N_lower (Kd.N_mono (ok' := fun k_ => some k_ ≠ (v711 : Value).ownBlock ∧ some k_ ≠ (v717 : Value).ownBlock) ho1 (fun k_ hk_ => ⟨hk_.2.1, hk_.2.2⟩)) (below_size (hz HB.out))); have HO718 := am (Kd.R_lower (Kd.R_mono (ok' := fun k_ => True) ho2 (fun _ hk_ => trivial)) (below_size (hz HB.out))); replace HB := am (below_step (hz HB.out) hb); (try clear hb); (try clear hk); (try clear hi); (try clear ho0); (try clear ho1); (try clear ho2); obtain ⟨Ao42, co42, eo42⟩ := Kd.R_slice HO712.out; subst eo42) | ((with_reducible refine gate_callee (f := 11) rfl ?_); refine goesL_ (some 26) rfl rfl Tryd.func11 (by kernel_rfl) rfl #[.slice Ao42 t710.length co42] rfl lz ?_; (with_reducible refine (journal_Read.calls k _ _ t710 t720 t721 t722 _ ?sideG ?side1 ?side2 A4.out).mono ?_); (case sideG => exact gle HG_.out (hz HB.out)); (case side1 => repeat (first | exact (Kd.R_reads' HO712.out).2.2 | (with_reducible refine Kd.C_alloc ?_ _) | (with_reducible refine Kd.C_drewN ?_ _) | (with_reducible refine Kd.C_drew ?_))); (case side2 => exact (Kd.R_reads' HO712.out).2.1); rintro e w43 ⟨v723, rfl, ho0, hb⟩; refine ⟨_, rfl, ?_⟩; have HO724 := am (Kd.N_lower (Kd.N_mono (ok' := fun k_ => some k_ ≠ (.slice Ao42 t710.length co42 : Value).ownBlock ∧ some k_ ≠ (v714 : Value).ownBlock ∧ some k_ ≠ (v717 : Value).ownBlock) (Kd.R_N (Kd.R_bound ho0)) (fun k_ hk_ => ⟨(Kd.fresh' (Kd.R_lt (rz HO712.out)) k_ hk_.2.1), (Kd.fresh' (Kd.N_lt (nz HO715.out)) k_ hk_.2.1), (Kd.fresh' (Kd.R_lt (rz HO718.out)) k_ hk_.2.1)⟩)) (below_size (hz HB.out))); replace HO712 := am (Kd.R_below (rz HO712.out) hb); replace HO715 := am (Kd.N_elder' (nz HO715.out) (Kd.R_base ho0) hb); replace HO718 := am (Kd.R_below (rz HO718.out) hb); replace HB := am (below_step (hz HB.out) hb); (try clear hb); (try clear hk); (try clear hi); (try clear ho0)) | ((with_reducible refine gate_callee (f := 18) rfl ?_); refine goesL_ (some 32) rfl rfl Tryd.func18 (by kernel_rfl) rfl #[.slice Ao42 t710.length co42] rfl lz ?_; (with_reducible refine (journal_Last.calls k _ _ t710 t725 t726 _ ?sideG ?side1 ?side2 A5.out).mono ?_); (case sideG => exact gle HG_.out (hz HB.out)); (case side1 => repeat (first | exact (Kd.R_reads' HO712.out).2.2 | (with_reducible refine Kd.C_alloc ?_ _) | (with_reducible refine Kd.C_drewN ?_ _) | (with_reducible refine Kd.C_drew ?_))); (case side2 => exact (Kd.R_reads' HO712.out).2.1); rintro e w44 ⟨rfl, hb⟩; refine ⟨_, rfl, ?_⟩; replace HO712 := am (Kd.R_below (rz HO712.out) hb); replace HO715 := am (Kd.N_below (nz HO715.out) hb); replace HO718 := am (Kd.R_below (rz HO718.out) hb); replace HO724 := am (Kd.N_below (nz HO724.out) hb); replace HB := am (below_step (hz HB.out) hb); (try clear hb); (try clear hk); (try clear hi); obtain ⟨Ao45, co45, eo45⟩ := Kd.N_slice HO724.out; subst eo45; obtain ⟨Ao46, co46, eo46⟩ := Kd.N_slice HO715.out; subst eo46) | ((with_reducible refine gate_callee (f := 12) rfl ?_); refine goesL_ (some 37) rfl rfl Tryd.func12 (by kernel_rfl) rfl #[.slice Ao45 t720.length co45, .slice Ao46 t713.length co46] rfl lz ?_; (with_reducible refine (examboardlaw49_same.calls k _ _ t720 _ _ t713 true _ ?side1 ?side2 ?side3 ?side4 A6.out).mono ?_); (case side1 => repeat (first | exact (Kd.N_reads' HO724.out).2.2 | (with_reducible refine Kd.C_alloc ?_ _) | (with_reducible refine Kd.C_drewN ?_ _) | (with_reducible refine Kd.C_drew ?_))); (case side2 => exact (Kd.N_reads' HO724.out).2.1); (case side3 => repeat (first | exact (Kd.N_reads' HO715.out).2.2 | (with_reducible refine Kd.C_alloc ?_ _) | (with_reducible refine Kd.C_drewN ?_ _) | (with_reducible refine Kd.C_drew ?_))); (case side4 => exact (Kd.N_reads' HO715.out).2.1); rintro e w47 ⟨rfl, hb⟩; refine ⟨_, rfl, ?_⟩; replace HO712 := am (Kd.R_below (rz HO712.out) hb); replace HO715 := am (Kd.N_below (nz HO715.out) hb); replace HO718 := am (Kd.R_below (rz HO718.out) hb); replace HO724 := am (Kd.N_below (nz HO724.out) hb); replace HB := am (below_step (hz HB.out) hb); (try clear hb); (try clear hk); (try clear hi)) | (go_at_call 15; (with_reducible refine (journal_Count.calls k _ _ t710 t728 _ ?side1 ?side2 A11.out).mono ?_); (case side1 => repeat (first | exact (Kd.R_reads' HO712.out).2.2 | (with_reducible refine Kd.C_alloc ?_ _) | (with_reducible refine Kd.C_drewN ?_ _) | (with_reducible refine Kd.C_drew ?_))); (case side2 => exact (Kd.R_reads' HO712.out).2.1); rintro e w48 ⟨rfl, hb⟩; replace HO712 := am (Kd.R_below (rz HO712.out) hb); replace HO715 := am (Kd.N_below (nz HO715.out) hb); replace HO718 := am (Kd.R_below (rz HO718.out) hb); replace HO724 := am (Kd.N_below (nz HO724.out) hb); replace HB := am (below_step (hz HB.out) hb); (try clear hb); (try clear hk); (try clear hi); obtain ⟨Ao49, co49, eo49⟩ := Kd.R_slice HO718.out; subst eo49; have p731 : 0 ≤ ((ji28) : Int) := of_decide_eq_true az; have q731 : (ji28) < (t716.length : Int) := of_decide_eq_true az; obtain ⟨ad731, e731, hx731_0⟩ := Kd.at_int (Kd.R_reads' HO718.out).2.2 (ji28) p731 q731; cases e731; replace p731 := eq_true p731; replace q731 := eq_true q731; have q50 : ((rd t716 (ji28)) : Int) ≤ ((t710.length : Int) : Int) := of_decide_eq_true az; obtain ⟨i050, hi050, _, hsz50, _⟩ := info_parts info5; have hroom50 : t710.length ≤ co42 := (Kd.R_reads' HO712.out).2.1; have hC50 : Kd.F (Kd.int .u8) _ _ Ao42 t710.length t710 := (Kd.V_at (base := w.heap.size) (Kd.R_V (Kd.R_apart' (Kd.R_apart' (Kd.R_apart' (HO712.out) (Kd.N_typed HO715.out) (by decide)) (Kd.R_typed HO718.out) (by decide)) (Kd.N_typed HO724.out) (by decide)))).2.2; have hcut50 := cut_to (P := Tryd.prog) 24 5 .i64 Tryd.underlying24 hi050 Ao42 t710.length co42 (rd t716 (ji28)) (of_decide_eq_true az) q50 hroom50; have hr50 := Kd.F_take (m := ((rd t716 (ji28)) : Int).toNat) hC50 (by omega); have hy50 : y732.length = ((rd t716 (ji28)) : Int).toNat := (by rw [Ny732.out, List.length_take]; omega); rw [← Ny732.out] at hr50; rw [← hy50] at hcut50; have HO736 := am (show Kd.V (Kd.int .u8) 5 _ w.heap.size _ (.slice Ao42 y732.length co42) y732 from Kd.V_mk (by omega) hr50); have HC736 := am (show y732.length ≤ co42 from by omega); clear hr50 hC50 hroom50 hi050 hsz50; have KY50 := am hy50; clear hy50; replace q50 := eq_true q50) | ((with_reducible refine gate_callee (f := 18) rfl ?_); refine goesL_ (some 87) rfl rfl Tryd.func18 (by kernel_rfl) rfl #[.slice Ao42 y732.length co42] rfl lz ?_; (with_reducible refine (journal_Last.calls k _ _ y732 t737 t738 _ ?sideG ?side1 ?side2 A33.out).mono ?_); (case sideG => exact gle HG_.out (hz HB.out)); (case side1 => repeat (first | exact (Kd.V_reads' HO736.out).2.2 | (with_reducible refine Kd.C_alloc ?_ _) | (with_reducible refine Kd.C_drewN ?_ _) | (with_reducible refine Kd.C_drew ?_))); (case side2 => exact (Kd.V_reads' HO736.out).2.1); rintro e w51 ⟨rfl, hb⟩; refine ⟨_, rfl, ?_⟩; replace HO712 := am (Kd.R_below (rz HO712.out) hb); replace HO715 := am (Kd.N_below (nz HO715.out) hb); replace HO718 := am (Kd.R_below (rz HO718.out) hb); replace HO724 := am (Kd.N_below (nz HO724.out) hb); replace HO736 := am (Kd.V_below (vz HO736.out) hb); replace HB := am (below_step (hz HB.out) hb); (try clear hb); (try clear hk); (try clear hi); have q52 : ((wrap64 ((t710.length : Int) - 8)) : Int) ≤ ((t710.length : Int) : Int) := of_decide_eq_true az; obtain ⟨i052, hi052, _, hsz52, _⟩ := info_parts info5; have hroom52 : t710.length ≤ co42 := (Kd.R_reads' HO712.out).2.1; have hC52 : Kd.F (Kd.int .u8) _ _ Ao42 t710.length t710 := (Kd.V_at (base := w.heap.size) (Kd.R_V (Kd.R_apart' (Kd.R_apart' (Kd.R_apart' (HO712.out) (Kd.N_typed HO715.out) (by decide)) (Kd.R_typed HO718.out) (by decide)) (Kd.N_typed HO724.out) (by decide)))).2.2; have ql52 : ((rd t716 (ji28)) : Int) ≤ ((wrap64 ((t710.length : Int) - 8)) : Int) := of_decide_eq_true az; have q052 : (0 : Int) ≤ ((rd t716 (ji28)) : Int) := of_decide_eq_true az; have hcut52 := cut_mid (P := Tryd.prog) 24 5 .i64 .i64 Tryd.underlying24 hi052 1 hsz52 Ao42 t710.length co42 (rd t716 (ji28)) (wrap64 ((t710.length : Int) - 8)) q052 ql52 q52 hroom52; have hr52 := Kd.F_mid (lo := ((rd t716 (ji28)) : Int).toNat) (hi := ((wrap64 ((t710.length : Int) - 8)) : Int).toNat) (c := co42) hC52 (by omega) (by omega) hroom52; obtain ⟨A52, hA52⟩ : ∃ A1, A1 = (if co42 = ((rd t716 (ji28)) : Int).toNat then Ao42 else (Ao42 : Option Addr).map (·.add (((rd t716 (ji28)) : Int).toNat * 1))) := ⟨_, rfl⟩; obtain ⟨c52, hc52⟩ : ∃ c1, c1 = co42 - ((rd t716 (ji28)) : Int).toNat := ⟨_, rfl⟩; have hy52 : y739.length = ((wrap64 ((t710.length : Int) - 8)) : Int).toNat - ((rd t716 (ji28)) : Int).toNat := (by rw [Ny739.out, List.length_drop, List.length_take] <;> omega); rw [show ((t710).take ((wrap64 ((t710.length : Int) - 8)) : Int).toNat).drop ((rd t716 (ji28)) : Int).toNat = y739 from Ny739.out.symm] at hr52; replace hr52 : Kd.F (Kd.int .u8) _ _ A52 y739.length y739 := (by rw [hA52]; exact hr52); rw [← hy52, ← hA52, ← hc52] at hcut52; have HO743 := am (show Kd.V (Kd.int .u8) 5 _ w.heap.size _ (.slice A52 y739.length c52) y739 from Kd.V_mk (by rw [hy52, hc52]; exact Nat.sub_le_sub_right (Nat.le_trans (by omega) hroom52) _) hr52); have HC743 := am (show y739.length ≤ c52 from by rw [hy52, hc52]; exact Nat.sub_le_sub_right (Nat.le_trans (by omega) hroom52) _); clear hr52 hC52 hroom52 hi052 hsz52 hc52; have KY52 := am hy52; have KA52 := am hA52; clear hy52 hA52; replace q52 := eq_true q52) | (go_at_call 22; (with_reducible refine (digest_Chain.calls k t737 _ _ y739 t744 _ ?side1 ?side2 A38.out).mono ?_); (case side1 => repeat (first | exact (Kd.V_reads' HO743.out).2.2 | (with_reducible refine Kd.C_alloc ?_ _) | (with_reducible refine Kd.C_drewN ?_ _) | (with_reducible refine Kd.C_drew ?_))); (case side2 => exact (Kd.V_reads' HO743.out).2.1); rintro e w' ⟨rfl, ⟨nd, rfl⟩⟩) | (go_at_call 16; (with_reducible refine (examboardlaw49_awake.calls k  t745 _ ?sideG A40.out).mono ?_); (case sideG => exact gle HG_.out (hz HB.out)); rintro e w53 ⟨rfl, hb⟩; replace HO712 := am (Kd.R_below (rz HO712.out) hb); replace HO715 := am (Kd.N_below (nz HO715.out) hb); replace HO718 := am (Kd.R_below (rz HO718.out) hb); replace HO724 := am (Kd.N_below (nz HO724.out) hb); replace HO736 := am (Kd.V_below (vz HO736.out) hb); replace HO743 := am (Kd.V_below (vz HO743.out) hb); replace HB := am (below_step (hz HB.out) hb); (try clear hb); (try clear hk); (try clear hi)))
     go_ret
     exact ⟨by first | rfl | (simp [errW_none, errW_some] <;> rfl) | (simp only [← hji28]; first | rfl | (simp [errW_none, errW_some] <;> rfl)) | (simp [*, errW_none, errW_some] <;> rfl), hz HB.out⟩
    ·
     rw [if_neg c27] at H
     have c27b0 : decide (1 < (t716.length : Int)) = false := decide_eq_false c27
     have c27b1 : decide (1 < t716.length) = false := decide_eq_false (by omega)
     clear c27
     replace H := it_ H
     obtain ⟨c54, H⟩ := H
     have c54b0 := eq_true c54
     have c54b1 : decide (0 ≤ (t710.length : Int)) = true := decide_eq_true c54
     clear c54
     obtain ⟨y746, hy746⟩ : ∃ y_ : List Int, y_ = (t710.take 0) := ⟨_, rfl⟩
     replace H : ((journal_Last.f k y746).bind fun bt751 => (if bt751.2 = 0 then (if 0 ≤ (wrap64 ((t710.length : Int) - 8)) then (if (wrap64 ((t710.length : Int) - 8)) ≤ (t710.length : Int) then ((digest_Chain.f k bt751.1 ((t710.take ((wrap64 ((t710.length : Int) - 8)) : Int).toNat).drop 0)).bind fun t758 => (if t725 = t758 then ((examboardlaw49_awake.f k).bind fun t759 => (some t759)) else (none))) else (none)) else (none)) else (none))) = some r := by first | (rw [hy746]; with_reducible exact H) | (have H2_ := (Option.bind_some _ _).symm.trans H; rw [hy746]; with_reducible exact H2_) | (have H2_ := (Option.bind_some _ _).symm.trans H; with_reducible exact H2_) | with_reducible exact H | (rw [hy746]; exact H) | exact H
     have Ny746 := am hy746
     clear hy746
     replace H := Option.bind_eq_some_iff.mp H
     obtain ⟨⟨t751, t752⟩, A550, H⟩ := H
     replace H : (if t752 = 0 then (if 0 ≤ (wrap64 ((t710.length : Int) - 8)) then (if (wrap64 ((t710.length : Int) - 8)) ≤ (t710.length : Int) then ((digest_Chain.f k t751 ((t710.take ((wrap64 ((t710.length : Int) - 8)) : Int).toNat).drop 0)).bind fun t758 => (if t725 = t758 then ((examboardlaw49_awake.f k).bind fun t759 => (some t759)) else (none))) else (none)) else (none)) else (none)) = some r := H
     have A55 := am A550
     clear A550
     replace H := it_ H
     obtain ⟨c56, H⟩ := H
     have c56b0 : (t752 == 0) = true := beq_iff_eq.mpr c56
     have c56b1 : (t752 != 0) = false := bne_eq_false_iff_eq.mpr c56
     clear c56
     obtain ⟨ji57, hji57⟩ : ∃ j_ : Int, (wrap64 ((t710.length : Int) - 8)) = j_ := ⟨_, rfl⟩
     replace H : (if 0 ≤ (ji57) then (if (ji57) ≤ (t710.length : Int) then ((digest_Chain.f k t751 ((t710.take ((ji57) : Int).toNat).drop 0)).bind fun t758 => (if t725 = t758 then ((examboardlaw49_awake.f k).bind fun t759 => (some t759)) else (none))) else (none)) else (none)) = some r := by first | (rw [hji57] at H; exact H) | (simp only [hji57] at H ⊢; exact H)
     (try rw [hji57] at A2)
     (try rw [hji57] at A4)
     (try rw [hji57] at A5)
     (try rw [hji57] at A6)
     (try rw [hji57] at A11)
     (try rw [hji57] at A55)
     have hji57w : (IntKind.i64.wrap ((t710.length : Int) - 8)) = ji57 := (i64_w _).trans hji57
     replace H := it_ H
     obtain ⟨c58, H⟩ := H
     have c58b0 := eq_true c58
     have c58b1 : decide (0 ≤ (ji57)) = true := decide_eq_true c58
     clear c58
     replace H := it_ H
     obtain ⟨c59, H⟩ := H
     have c59b0 := eq_true c59
     have c59b1 : decide ((ji57) ≤ (t710.length : Int)) = true := decide_eq_true c59
     clear c59
     obtain ⟨y753, hy753⟩ : ∃ y_ : List Int, y_ = ((t710.take ((ji57) : Int).toNat).drop 0) := ⟨_, rfl⟩
     replace H : ((digest_Chain.f k t751 y753).bind fun t758 => (if t725 = t758 then ((examboardlaw49_awake.f k).bind fun t759 => (some t759)) else (none))) = some r := by first | (rw [hy753]; with_reducible exact H) | (have H2_ := (Option.bind_some _ _).symm.trans H; rw [hy753]; with_reducible exact H2_) | (have H2_ := (Option.bind_some _ _).symm.trans H; with_reducible exact H2_) | with_reducible exact H | (rw [hy753]; exact H) | exact H
     have Ny753 := am hy753
     clear hy753
     replace H := Option.bind_eq_some_iff.mp H
     obtain ⟨t758, A600, H⟩ := H
     replace H : (if t725 = t758 then ((examboardlaw49_awake.f k).bind fun t759 => (some t759)) else (none)) = some r := H
     have A60 := am A600
     clear A600
     replace H := it_ H
     obtain ⟨c61, H⟩ := H
     have c61b0 : (t725 == t758) = true := beq_iff_eq.mpr c61
     have c61b1 : (t725 != t758) = false := bne_eq_false_iff_eq.mpr c61
     clear c61
     replace H := Option.bind_eq_some_iff.mp H
     obtain ⟨t759, A620, H⟩ := H
     replace H : (some t759) = some r := H
     have A62 := am A620
     clear A620
     obtain rfl := Option.some.inj H
     go_enter Tryd.func7, Tryd.ntmps7
     go_wp2_with (first | ((with_reducible refine gate_callee (f := 9) rfl ?_); refine goesL_ (some 17) rfl rfl Tryd.func9 (by kernel_rfl) rfl #[.slice A0 l0.length c0] rfl lz ?_; (with_reducible refine (examboardlaw49_written.calls k (fun k_ => k_ < w.heap.size) _ _ l0 t710 t713 t716 true _ ?sideG ?side1 A2.out).mono ?_); (case sideG => exact gle HG_.out (hz HB.out)); (case side1 => exact Kd.V_mk HC0.out (Kd.F_below (Kd.C_F k43_heap HR0.out) (hz HB.out))); rintro e w63 ⟨v711, v714, v717, rfl, ho0, ho1, ho2, hb⟩; refine ⟨_, rfl, ?_⟩; have HO712 := am (Kd.R_lower (Kd.R_mono (ok' := fun k_ => True) ho0 (fun _ hk_ => trivial)) (below_size (hz HB.out))); have HO715 := am (Kd.N_lower (Kd.N_mono (ok' := fun k_ => some k_ ≠ (v711 : Value).ownBlock ∧ some k_ ≠ (v717 : Value).ownBlock) ho1 (fun k_ hk_ => ⟨hk_.2.1, hk_.2.2⟩)) (below_size (hz HB.out))); have HO718 := am (Kd.R_lower (Kd.R_mono (ok' := fun k_ => True) ho2 (fun _ hk_ => trivial)) (below_size (hz HB.out))); replace HB := am (below_step (hz HB.out) hb); (try clear hb); (try clear hk); (try clear hi); (try clear ho0); (try clear ho1); (try clear ho2); obtain ⟨Ao64, co64, eo64⟩ := Kd.R_slice HO712.out; subst eo64) | ((with_reducible refine gate_callee (f := 11) rfl ?_); refine goesL_ (some 26) rfl rfl Tryd.func11 (by kernel_rfl) rfl #[.slice Ao64 t710.length co64] rfl lz ?_; (with_reducible refine (journal_Read.calls k _ _ t710 t720 t721 t722 _ ?sideG ?side1 ?side2 A4.out).mono ?_); (case sideG => exact gle HG_.out (hz HB.out)); (case side1 => repeat (first | exact (Kd.R_reads' HO712.out).2.2 | (with_reducible refine Kd.C_alloc ?_ _) | (with_reducible refine Kd.C_drewN ?_ _) | (with_reducible refine Kd.C_drew ?_))); (case side2 => exact (Kd.R_reads' HO712.out).2.1); rintro e w65 ⟨v723, rfl, ho0, hb⟩; refine ⟨_, rfl, ?_⟩; have HO724 := am (Kd.N_lower (Kd.N_mono (ok' := fun k_ => some k_ ≠ (.slice Ao64 t710.length co64 : Value).ownBlock ∧ some k_ ≠ (v714 : Value).ownBlock ∧ some k_ ≠ (v717 : Value).ownBlock) (Kd.R_N (Kd.R_bound ho0)) (fun k_ hk_ => ⟨(Kd.fresh' (Kd.R_lt (rz HO712.out)) k_ hk_.2.1), (Kd.fresh' (Kd.N_lt (nz HO715.out)) k_ hk_.2.1), (Kd.fresh' (Kd.R_lt (rz HO718.out)) k_ hk_.2.1)⟩)) (below_size (hz HB.out))); replace HO712 := am (Kd.R_below (rz HO712.out) hb); replace HO715 := am (Kd.N_elder' (nz HO715.out) (Kd.R_base ho0) hb); replace HO718 := am (Kd.R_below (rz HO718.out) hb); replace HB := am (below_step (hz HB.out) hb); (try clear hb); (try clear hk); (try clear hi); (try clear ho0)) | ((with_reducible refine gate_callee (f := 18) rfl ?_); refine goesL_ (some 32) rfl rfl Tryd.func18 (by kernel_rfl) rfl #[.slice Ao64 t710.length co64] rfl lz ?_; (with_reducible refine (journal_Last.calls k _ _ t710 t725 t726 _ ?sideG ?side1 ?side2 A5.out).mono ?_); (case sideG => exact gle HG_.out (hz HB.out)); (case side1 => repeat (first | exact (Kd.R_reads' HO712.out).2.2 | (with_reducible refine Kd.C_alloc ?_ _) | (with_reducible refine Kd.C_drewN ?_ _) | (with_reducible refine Kd.C_drew ?_))); (case side2 => exact (Kd.R_reads' HO712.out).2.1); rintro e w66 ⟨rfl, hb⟩; refine ⟨_, rfl, ?_⟩; replace HO712 := am (Kd.R_below (rz HO712.out) hb); replace HO715 := am (Kd.N_below (nz HO715.out) hb); replace HO718 := am (Kd.R_below (rz HO718.out) hb); replace HO724 := am (Kd.N_below (nz HO724.out) hb); replace HB := am (below_step (hz HB.out) hb); (try clear hb); (try clear hk); (try clear hi); obtain ⟨Ao67, co67, eo67⟩ := Kd.N_slice HO724.out; subst eo67; obtain ⟨Ao68, co68, eo68⟩ := Kd.N_slice HO715.out; subst eo68) | ((with_reducible refine gate_callee (f := 12) rfl ?_); refine goesL_ (some 37) rfl rfl Tryd.func12 (by kernel_rfl) rfl #[.slice Ao67 t720.length co67, .slice Ao68 t713.length co68] rfl lz ?_; (with_reducible refine (examboardlaw49_same.calls k _ _ t720 _ _ t713 true _ ?side1 ?side2 ?side3 ?side4 A6.out).mono ?_); (case side1 => repeat (first | exact (Kd.N_reads' HO724.out).2.2 | (with_reducible refine Kd.C_alloc ?_ _) | (with_reducible refine Kd.C_drewN ?_ _) | (with_reducible refine Kd.C_drew ?_))); (case side2 => exact (Kd.N_reads' HO724.out).2.1); (case side3 => repeat (first | exact (Kd.N_reads' HO715.out).2.2 | (with_reducible refine Kd.C_alloc ?_ _) | (with_reducible refine Kd.C_drewN ?_ _) | (with_reducible refine Kd.C_drew ?_))); (case side4 => exact (Kd.N_reads' HO715.out).2.1); rintro e w69 ⟨rfl, hb⟩; refine ⟨_, rfl, ?_⟩; replace HO712 := am (Kd.R_below (rz HO712.out) hb); replace HO715 := am (Kd.N_below (nz HO715.out) hb); replace HO718 := am (Kd.R_below (rz HO718.out) hb); replace HO724 := am (Kd.N_below (nz HO724.out) hb); replace HB := am (below_step (hz HB.out) hb); (try clear hb); (try clear hk); (try clear hi)) | (go_at_call 15; (with_reducible refine (journal_Count.calls k _ _ t710 t728 _ ?side1 ?side2 A11.out).mono ?_); (case side1 => repeat (first | exact (Kd.R_reads' HO712.out).2.2 | (with_reducible refine Kd.C_alloc ?_ _) | (with_reducible refine Kd.C_drewN ?_ _) | (with_reducible refine Kd.C_drew ?_))); (case side2 => exact (Kd.R_reads' HO712.out).2.1); rintro e w70 ⟨rfl, hb⟩; replace HO712 := am (Kd.R_below (rz HO712.out) hb); replace HO715 := am (Kd.N_below (nz HO715.out) hb); replace HO718 := am (Kd.R_below (rz HO718.out) hb); replace HO724 := am (Kd.N_below (nz HO724.out) hb); replace HB := am (below_step (hz HB.out) hb); (try clear hb); (try clear hk); (try clear hi); obtain ⟨Ao71, co71, eo71⟩ := Kd.R_slice HO718.out; subst eo71; have q72 : (0 : Int) ≤ ((t710.length : Int) : Int) := of_decide_eq_true az; obtain ⟨i072, hi072, _, hsz72, _⟩ := info_parts info5; have hroom72 : t710.length ≤ co64 := (Kd.R_reads' HO712.out).2.1; have hC72 : Kd.F (Kd.int .u8) _ _ Ao64 t710.length t710 := (Kd.V_at (base := w.heap.size) (Kd.R_V (Kd.R_apart' (Kd.R_apart' (Kd.R_apart' (HO712.out) (Kd.N_typed HO715.out) (by decide)) (Kd.R_typed HO718.out) (by decide)) (Kd.N_typed HO724.out) (by decide)))).2.2; have hcut72 := cut_to (P := Tryd.prog) 24 5 .i64 Tryd.underlying24 hi072 Ao64 t710.length co64 0 (by omega) q72 hroom72; have hr72 := Kd.F_take (m := 0) hC72 (by omega); have hy72 : y746.length = (0 : Int).toNat := (by rw [Ny746.out, List.length_take]; omega); rw [← Ny746.out] at hr72; rw [← hy72] at hcut72; have HO750 := am (show Kd.V (Kd.int .u8) 5 _ w.heap.size _ (.slice Ao64 y746.length co64) y746 from Kd.V_mk (by omega) hr72); have HC750 := am (show y746.length ≤ co64 from by omega); clear hr72 hC72 hroom72 hi072 hsz72; have KY72 := am hy72; clear hy72; replace q72 := eq_true q72) | ((with_reducible refine gate_callee (f := 18) rfl ?_); refine goesL_ (some 87) rfl rfl Tryd.func18 (by kernel_rfl) rfl #[.slice Ao64 y746.length co64] rfl lz ?_; (with_reducible refine (journal_Last.calls k _ _ y746 t751 t752 _ ?sideG ?side1 ?side2 A55.out).mono ?_); (case sideG => exact gle HG_.out (hz HB.out)); (case side1 => repeat (first | exact (Kd.V_reads' HO750.out).2.2 | (with_reducible refine Kd.C_alloc ?_ _) | (with_reducible refine Kd.C_drewN ?_ _) | (with_reducible refine Kd.C_drew ?_))); (case side2 => exact (Kd.V_reads' HO750.out).2.1); rintro e w73 ⟨rfl, hb⟩; refine ⟨_, rfl, ?_⟩; replace HO712 := am (Kd.R_below (rz HO712.out) hb); replace HO715 := am (Kd.N_below (nz HO715.out) hb); replace HO718 := am (Kd.R_below (rz HO718.out) hb); replace HO724 := am (Kd.N_below (nz HO724.out) hb); replace HO750 := am (Kd.V_below (vz HO750.out) hb); replace HB := am (below_step (hz HB.out) hb); (try clear hb); (try clear hk); (try clear hi); have q74 : ((ji57) : Int) ≤ ((t710.length : Int) : Int) := of_decide_eq_true az; obtain ⟨i074, hi074, _, hsz74, _⟩ := info_parts info5; have hroom74 : t710.length ≤ co64 := (Kd.R_reads' HO712.out).2.1; have hC74 : Kd.F (Kd.int .u8) _ _ Ao64 t710.length t710 := (Kd.V_at (base := w.heap.size) (Kd.R_V (Kd.R_apart' (Kd.R_apart' (Kd.R_apart' (HO712.out) (Kd.N_typed HO715.out) (by decide)) (Kd.R_typed HO718.out) (by decide)) (Kd.N_typed HO724.out) (by decide)))).2.2; have ql74 : (0 : Int) ≤ ((ji57) : Int) := of_decide_eq_true az; have hcut74 := cut_mid (P := Tryd.prog) 24 5 .i64 .i64 Tryd.underlying24 hi074 1 hsz74 Ao64 t710.length co64 0 (ji57) (by omega) ql74 q74 hroom74; have hr74 := Kd.F_mid (lo := (0 : Int).toNat) (hi := ((ji57) : Int).toNat) (c := co64) hC74 (by omega) (by omega) hroom74; obtain ⟨A74, hA74⟩ : ∃ A1, A1 = (if co64 = (0 : Int).toNat then Ao64 else (Ao64 : Option Addr).map (·.add ((0 : Int).toNat * 1))) := ⟨_, rfl⟩; obtain ⟨c74, hc74⟩ : ∃ c1, c1 = co64 - (0 : Int).toNat := ⟨_, rfl⟩; have hy74 : y753.length = ((ji57) : Int).toNat - (0 : Int).toNat := (by rw [Ny753.out, List.length_drop, List.length_take] <;> omega); rw [show ((t710).take ((ji57) : Int).toNat).drop (0 : Int).toNat = y753 from Ny753.out.symm] at hr74; replace hr74 : Kd.F (Kd.int .u8) _ _ A74 y753.length y753 := (by rw [hA74]; exact hr74); rw [← hy74, ← hA74, ← hc74] at hcut74; have HO757 := am (show Kd.V (Kd.int .u8) 5 _ w.heap.size _ (.slice A74 y753.length c74) y753 from Kd.V_mk (by rw [hy74, hc74]; exact Nat.sub_le_sub_right (Nat.le_trans (by omega) hroom74) _) hr74); have HC757 := am (show y753.length ≤ c74 from by rw [hy74, hc74]; exact Nat.sub_le_sub_right (Nat.le_trans (by omega) hroom74) _); clear hr74 hC74 hroom74 hi074 hsz74 hc74; have KY74 := am hy74; have KA74 := am hA74; clear hy74 hA74; replace q74 := eq_true q74) | (go_at_call 22; (with_reducible refine (digest_Chain.calls k t751 _ _ y753 t758 _ ?side1 ?side2 A60.out).mono ?_); (case side1 => repeat (first | exact (Kd.V_reads' HO757.out).2.2 | (with_reducible refine Kd.C_alloc ?_ _) | (with_reducible refine Kd.C_drewN ?_ _) | (with_reducible refine Kd.C_drew ?_))); (case side2 => exact (Kd.V_reads' HO757.out).2.1); rintro e w' ⟨rfl, ⟨nd, rfl⟩⟩) | (go_at_call 16; (with_reducible refine (examboardlaw49_awake.calls k  t759 _ ?sideG A62.out).mono ?_); (case sideG => exact gle HG_.out (hz HB.out)); rintro e w75 ⟨rfl, hb⟩; replace HO712 := am (Kd.R_below (rz HO712.out) hb); replace HO715 := am (Kd.N_below (nz HO715.out) hb); replace HO718 := am (Kd.R_below (rz HO718.out) hb); replace HO724 := am (Kd.N_below (nz HO724.out) hb); replace HO750 := am (Kd.V_below (vz HO750.out) hb); replace HO757 := am (Kd.V_below (vz HO757.out) hb); replace HB := am (below_step (hz HB.out) hb); (try clear hb); (try clear hk); (try clear hi)))
     go_ret
     exact ⟨by first | rfl | (simp [errW_none, errW_some] <;> rfl) | (simp only [← hji57]; first | rfl | (simp [errW_none, errW_some] <;> rfl)) | (simp [*, errW_none, errW_some] <;> rfl), hz HB.out⟩
  ·
   replace c7 := Bool.eq_false_iff.mpr c7
   subst c7
   have H1 : (none) = some r := by rw [if_neg (show ¬ (false = true) by decide)] at H; exact H
   clear H
   have H := H1
   clear H1
   exact absurd H (by simp)
 ·
  replace c3 := Bool.eq_false_iff.mpr c3
  subst c3
  have H1 : (none) = some r := by rw [if_neg (show ¬ (false = true) by decide)] at H; exact H
  clear H
  have H := H1
  clear H1
  exact absurd H (by simp)

end Go.Proofs.YteeggfnailpcpaaDoor.Q
