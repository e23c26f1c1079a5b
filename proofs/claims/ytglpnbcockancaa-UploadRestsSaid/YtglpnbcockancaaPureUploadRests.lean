import Derived.Test.YtglpnbcockancaaQx19
import Derived.Test.YtglpnbcockancaaRst
import Derived.Test.YtglpnbcockancaaDivRef
import Derived.Test.YtglpnbcockancaaExample
namespace Go.Proofs.Ytglpnbcockancaa.Pure
open Go.RowKit Go.Proofs.Ytglpnbcockancaa.Q Go.Proofs.Ytglpnbcockancaa.Dig Go.Proofs.Ytglpnbcockancaa.Upl Go.Proofs.YtglpnbcockancaaW.PrintWords Go.Proofs.YtglpnbcockancaaW.PrintLast

theorem agree_l0 {x l : List Int} (h : x.length ≤ l.length) (hl : l.length < 4611686018427387904) : ∀ (d k i : Nat), i + d = l.length → d < k →
    examboardref53_agree.l0 k x 0 0 l (l.length : Int) (i : Int) = some (decide ((l.take x.length).drop i = x.drop i)) := by
  intro d
  induction d with
  | zero =>
    intro k i hd hk
    obtain ⟨k, rfl⟩ : ∃ q, k = q + 1 := ⟨k - 1, by omega⟩
    simp only [examboardref53_agree.l0]
    rw [if_neg (by omega), List.drop_of_length_le (by rw [List.length_take]; omega), List.drop_of_length_le (by omega), decide_eq_true rfl]
  | succ d ih =>
    intro k i hd hk
    obtain ⟨k, rfl⟩ : ∃ q, k = q + 1 := ⟨k - 1, by omega⟩
    simp only [examboardref53_agree.l0]
    have e : wrap64 ((wrap64 (0 + (i : Int))) - 0) = (i : Int) := by
      rw [show wrap64 (0 + (i : Int)) = (i : Int) from by rw [w64 (by omega) (by omega)]; omega, w64 (by omega) (by omega)]; omega
    have h' := ih k (i + 1) (by omega) (by omega)
    have e1 : wrap64 ((i : Int) + 1) = ((i + 1 : Nat) : Int) := by rw [w64 (by omega) (by omega)]; omega
    rw [if_pos (by omega), if_pos (by omega), if_pos (by omega), e, e1, h', if_pos (by omega)]
    by_cases g : i < x.length
    · rw [if_pos (by omega), if_pos (by omega), rd_at x i g, rd_at l i (by omega)]
      have dl : (l.take x.length).drop i = l[i] :: (l.take x.length).drop (i + 1) := by
        rw [List.drop_eq_getElem_cons (by rw [List.length_take]; omega), List.getElem_take]
      have dx : x.drop i = x[i] :: x.drop (i + 1) := List.drop_eq_getElem_cons g
      rw [dl, dx]
      by_cases f : x[i] = l[i]
      · rw [if_pos f]
        congr 1
        rw [f]
        simp only [List.cons.injEq, true_and]
      · rw [if_neg f, decide_eq_false]
        intro z
        simp only [List.cons.injEq] at z
        exact f z.1.symm
    · rw [if_neg (by omega), List.drop_of_length_le (show (l.take x.length).length ≤ i by rw [List.length_take]; omega), List.drop_of_length_le (show x.length ≤ i by omega),
        List.drop_of_length_le (show (l.take x.length).length ≤ i + 1 by rw [List.length_take]; omega), List.drop_of_length_le (show x.length ≤ i + 1 by omega)]
theorem ref_Rest_is {k : Nat} (s : Int) {d l : List Int} (q : List S25) (m : Int) (hl : l.length < 4611686018427387904) (hk : 1060000 ≤ k) (hk2 : l.length < k) : examboardref53_Rest.f k s d q l m = some (rs s d l m) := by
  unfold examboardref53_Rest.f rs
  by_cases h : d.length ≤ l.length
  · have a := agree_l0 h hl l.length k 0 (by omega) hk2
    rw [Int.ofNat_zero, List.drop_zero, List.drop_zero] at a
    rw [if_neg (by omega)]
    unfold examboardref53_agree.f
    rw [bound a]
    by_cases g : l.take d.length = d
    · rw [if_pos (decide_eq_true g), if_pos ⟨h, g⟩, bound (ref_divide_is s l d.length m (fun _ => by omega) hk)]
    · rw [if_neg (by simp [g]), if_neg fun x => g x.2]
  · rw [if_pos (by omega), if_neg fun x => h x.1]
theorem rs_same {k : Nat} (s : Int) (d l : List Int) (m : Int) (hk : 1060000 ≤ k) : examboardlaw53_samePackets.f k (rs s d l m).1 (rs s d l m).1 = some true := by
  unfold rs
  split
  · exact dv_same s l d.length m hk
  · exact samePackets_refl (by simp) (fun p hp => by simp at hp) (by simp; omega)
theorem UploadRests (s : Int) (d l : List Int) (q : List S25) (m : Int) (hd : Bytes d) (hl : Bytes l) (hb : l.length < 4611686018427387904) : ∃ k, examboardlaw53_UploadRests.f k s d q l m = some true := by
  obtain ⟨k, hk, hk2⟩ : ∃ k : Nat, 1060000 ≤ k ∧ l.length < k := ⟨1060000 + l.length, by omega, by omega⟩
  refine ⟨k, ?_⟩
  unfold examboardlaw53_UploadRests.f
  rw [bound (Rest_is s q m hd hl hk), bound (ref_Rest_is s q m hb hk hk2), if_pos rfl, bound (rs_same s d l m hk), if_pos rfl, bound (awake_is (by omega))]

end Go.Proofs.Ytglpnbcockancaa.Pure
