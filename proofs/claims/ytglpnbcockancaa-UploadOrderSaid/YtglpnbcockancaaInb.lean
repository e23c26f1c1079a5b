/- What upload.Receive answers of an inbox that holds packets of one journal b (at most 80 bytes): what Canon's 'rcv' tells. -/
import Derived.Test.YtglpnbcockancaaRcv
import Derived.Test.YtglpnbcockancaaCanon
namespace Go.Proofs.Ytglpnbcockancaa.Upl
open Go.RowKit Go.Proofs.Ytglpnbcockancaa.Q Go.Proofs.Ytglpnbcockancaa.Dig Go.Proofs.Ytglpnbcockancaa.Canon Go.Proofs.YtglpnbcockancaaW.PrintWords Go.Proofs.YtglpnbcockancaaW.PrintLast Go.Proofs.YtglpnbcockancaaW.PrintMore

/-- the bytes of a journal at a place -/
def cut (b : List Int) (p : P) : List Int := (b.drop p.1).take p.2
def pk (b : List Int) (p : P) : S25 := ⟨5, p.1, cut b p, sumP 5 p.1 (cut b p)⟩
def good (b : List Int) (p : P) : Prop := 1 ≤ p.2 ∧ p.1 + p.2 ≤ b.length
variable {b : List Int}
theorem cut_length {p : P} (h : good b p) : (cut b p).length = p.2 := by
  unfold good at h
  unfold cut
  rw [List.length_take, List.length_drop]; omega
theorem mx_nat (a b : Nat) : mx (a : Int) (b : Int) = ((max a b : Nat) : Int) := by unfold mx; split <;> omega
theorem pk_ck (hb : b.length ≤ 80) {p : P} (h : good b p) : ck 5 p.1 (cut b p) (sumP 5 p.1 (cut b p)) = 0 := by
  unfold ck
  rw [if_pos, if_pos rfl]
  have := cut_length h
  unfold good at h
  rw [okP_iff]; omega

theorem agree_is (hb : b.length ≤ 80) {p q : P} (hp : p.1 + p.2 ≤ b.length) (hq : q.1 + q.2 ≤ b.length) : upload_agree.f (cut b p) p.1 (cut b q) q.1 = some true := by
  have lp : (cut b p).length = p.2 := by unfold cut; rw [List.length_take, List.length_drop]; omega
  have lq : (cut b q).length = q.2 := by unfold cut; rw [List.length_take, List.length_drop]; omega
  unfold upload_agree.f
  have e1 : wrap64 ((p.1 : Int) + ((cut b p).length : Int)) = ((p.1 + p.2 : Nat) : Int) := by rw [lp, w64 (by omega) (by omega)]; omega
  have e2 : wrap64 ((q.1 : Int) + ((cut b q).length : Int)) = ((q.1 + q.2 : Nat) : Int) := by rw [lq, w64 (by omega) (by omega)]; omega
  rw [e1, e2, mx_nat, mn_nat]
  by_cases h : max p.1 q.1 ≥ min (p.1 + p.2) (q.1 + q.2)
  · rw [if_pos (by omega)]
  · have f1 : wrap64 (((max p.1 q.1 : Nat) : Int) - (p.1 : Int)) = ((max p.1 q.1 - p.1 : Nat) : Int) := by rw [w64 (by omega) (by omega)]; omega
    have f2 : wrap64 (((max p.1 q.1 : Nat) : Int) - (q.1 : Int)) = ((max p.1 q.1 - q.1 : Nat) : Int) := by rw [w64 (by omega) (by omega)]; omega
    have f3 : wrap64 (((min (p.1 + p.2) (q.1 + q.2) : Nat) : Int) - (p.1 : Int)) = ((min (p.1 + p.2) (q.1 + q.2) - p.1 : Nat) : Int) := by rw [w64 (by omega) (by omega)]; omega
    have f4 : wrap64 (((min (p.1 + p.2) (q.1 + q.2) : Nat) : Int) - (q.1 : Int)) = ((min (p.1 + p.2) (q.1 + q.2) - q.1 : Nat) : Int) := by rw [w64 (by omega) (by omega)]; omega
    rw [if_neg (by omega), f1, f2, f3, f4, if_pos (by omega), if_pos (by omega), if_pos (by rw [lp]; omega), if_pos (by omega), if_pos (by omega), if_pos (by rw [lq]; omega)]
    simp only [Int.toNat_natCast]
    have key : ∀ r : P, r.1 ≤ max p.1 q.1 → min (p.1 + p.2) (q.1 + q.2) ≤ r.1 + r.2 → ((cut b r).take (min (p.1 + p.2) (q.1 + q.2) - r.1)).drop (max p.1 q.1 - r.1) = (b.drop (max p.1 q.1)).take (min (p.1 + p.2) (q.1 + q.2) - max p.1 q.1) := by
      intro r h1 h2
      unfold cut
      rw [List.take_take, show min (min (p.1 + p.2) (q.1 + q.2) - r.1) r.2 = min (p.1 + p.2) (q.1 + q.2) - r.1 by omega, List.drop_take, List.drop_drop, show r.1 + (max p.1 q.1 - r.1) = max p.1 q.1 by omega, show min (p.1 + p.2) (q.1 + q.2) - r.1 - (max p.1 q.1 - r.1) = min (p.1 + p.2) (q.1 + q.2) - max p.1 q.1 by omega]
    rw [key p (by omega) (by omega), key q (by omega) (by omega)]
    unfold bytes_Equal.f
    rw [beq_self_eq_true, Option.bind_some]
/-- what is there in one piece -/
theorem take_cut (D : Nat) : b.take D = cut b (0, D) := by unfold cut; rw [List.drop_zero]
theorem agree_data (hb : b.length ≤ 80) {D : Nat} (hD : D ≤ b.length) {q : P} (hq : good b q) : upload_agree.f (b.take D) 0 (cut b q) q.1 = some true := by
  rw [take_cut]
  exact agree_is hb (p := (0, D)) (by simp; omega) hq.2

theorem rd_map (L : List P) (i : Nat) (h : i < L.length) : rd_T25 (L.map (pk b)) (i : Int) = pk b L[i] := by
  rw [rd25 _ i (by rw [List.length_map]; exact h), List.getElem_map]
theorem next (i : Nat) (h : i < 1000000) : wrap64 ((i : Int) + 1) = ((i + 1 : Nat) : Int) := by rw [w64 (by omega) (by omega)]; omega

/-- an inbox of the journal b -/
structure Inv (b : List Int) (s : Nat × List P) : Prop where
  top : s.1 ≤ b.length
  all : ∀ q ∈ s.2, good b q ∧ s.1 < q.1
  ord : s.2.Pairwise bef
  few : s.2.length ≤ 200

section
variable {L : List P} (hb : b.length ≤ 80) (hL : ∀ q ∈ L, good b q)
include hb hL
theorem valid_l1 {i : Nat} (hi : i < L.length) (hn : L.length ≤ 200) (s : Int) (d : List Int) : ∀ (e k j : Nat), j + e = i →
    upload_valid.l1 (k + e + 1) (L.map (pk b)) (L.length : Int) (i : Int) ((L.map (pk b)).take i) (i : Int) (j : Int) s d (L.map (pk b)) (pk b L[i]).f0 (pk b L[i]).f1 (pk b L[i]).f2 (pk b L[i]).f3 =
    upload_valid.l0 k (L.map (pk b)) (L.length : Int) ((i + 1 : Nat) : Int) s d (L.map (pk b)) := by
  intro e
  induction e with
  | zero =>
    intro k j hj
    simp only [upload_valid.l1]
    rw [if_neg (by omega), next i (by omega)]
  | succ e ih =>
    intro k j hj
    rw [show k + (e + 1) + 1 = (k + e + 1) + 1 by omega]
    simp only [upload_valid.l1]
    have hj' : j < L.length := by omega
    have e1 : rd_T25 ((L.map (pk b)).take i) (j : Int) = pk b L[j] := by
      rw [rd25 _ j (by rw [List.length_take, List.length_map]; omega), List.getElem_take, List.getElem_map]
    have h1 := hL L[i] (List.getElem_mem _)
    have h2 := hL L[j] (List.getElem_mem _)
    have a := agree_is hb h1.2 h2.2
    rw [if_pos (by omega), if_pos (by omega), if_pos (by rw [List.length_take, List.length_map]; omega), e1, next j (by omega)]
    have a' : upload_agree.f (pk b L[i]).f2 (pk b L[i]).f1 (pk b L[j]).f2 (pk b L[j]).f1 = some true := a
    rw [a', Option.bind_some, if_pos rfl]
    exact ih k (j + 1) (by omega)
theorem valid_l0 (ho : L.Pairwise bef) (hn : L.length ≤ 200) {D : Nat} (hD : D ≤ b.length) (hd : ∀ q ∈ L, D < q.1) : ∀ (d k i : Nat), i + d = L.length → d * 203 + 2100 ≤ k →
    upload_valid.l0 k (L.map (pk b)) (L.length : Int) (i : Int) 5 (b.take D) (L.map (pk b)) = some true := by
  intro d
  induction d with
  | zero =>
    intro k i hi hk
    obtain ⟨k, rfl⟩ : ∃ q, k = q + 1 := ⟨k - 1, by omega⟩
    simp only [upload_valid.l0]
    rw [if_neg (by omega)]
  | succ d ih =>
    intro k i hi hk
    have hi' : i < L.length := by omega
    obtain ⟨k, rfl⟩ : ∃ q, k = (q + i + 1) + 2 := ⟨k - i - 3, by omega⟩
    have g := hL L[i] (List.getElem_mem _)
    have c0 : upload_check.f (k + i + 1 + 1) (pk b L[i]).f0 (pk b L[i]).f1 (pk b L[i]).f2 (pk b L[i]).f3 = some 0 := by
      rw [check_is _ _ _ _ (by omega)]; exact congrArg some (pk_ck hb g)
    have hdi := hd L[i] (List.getElem_mem _)
    have goal : upload_valid.j1 (k + i + 1 + 1) (i : Int) (L.map (pk b)) (L.length : Int) (i : Int) false 5 (b.take D) (L.map (pk b)) (pk b L[i]).f0 (pk b L[i]).f1 (pk b L[i]).f2 (pk b L[i]).f3 = some true := by
      simp only [upload_valid.j1]
      rw [if_neg (by decide), if_pos (by omega), if_pos (by rw [List.length_map]; omega), Option.bind_some, Int.toNat_natCast,
        show (((L.map (pk b)).take i).length : Int) = (i : Int) by rw [List.length_take, List.length_map]; omega]
      have := valid_l1 hb hL hi' hn 5 (b.take D) i k 0 (by omega)
      rw [Int.ofNat_zero] at this
      rw [this]
      exact ih k (i + 1) (by omega) (by omega)
    simp only [upload_valid.l0]
    rw [if_pos (by omega), if_pos (by omega), if_pos (by rw [List.length_map]; omega), rd_map L i hi', c0, Option.bind_some, if_pos rfl, if_pos (show (pk b L[i]).f0 = 5 from rfl), if_neg (by rw [List.length_take]; show ¬ ((L[i].1 : Int) ≤ _); omega)]
    by_cases h0 : i = 0
    · subst h0
      rw [if_neg (by omega)]
      exact goal
    · have e : wrap64 ((i : Int) - 1) = ((i - 1 : Nat) : Int) := by rw [w64 (by omega) (by omega)]; omega
      rw [if_pos (by omega), e, if_pos (by omega), if_pos (by rw [List.length_map]; omega), rd_map L (i - 1) (by omega)]
      have hb' : bef L[i - 1] L[i] := List.pairwise_iff_getElem.1 ho (i - 1) i (by omega) hi' (by omega)
      have g' := hL L[i - 1] (List.getElem_mem _)
      have bf : upload_before.f (pk b L[i - 1]).f0 (pk b L[i - 1]).f1 (pk b L[i - 1]).f2 (pk b L[i - 1]).f3 (pk b L[i]).f0 (pk b L[i]).f1 (pk b L[i]).f2 (pk b L[i]).f3 = some true := by
        show upload_before.f 5 (L[i - 1].1 : Int) (cut b L[i - 1]) _ 5 (L[i].1 : Int) (cut b L[i]) _ = some true
        unfold upload_before.f
        unfold bef at hb'
        by_cases h1 : L[i - 1].1 < L[i].1
        · rw [if_pos (by omega)]
        · rw [if_neg (by omega), if_pos (by omega), cut_length g, cut_length g', decide_eq_true (by omega)]
      rw [bf, Option.bind_some]
      exact goal
theorem any_false {p : P} (hp : good b p) (x : Int) : ∀ (d k i : Nat), i + d = L.length → L.length ≤ 200 → d < k → upload_conflict_any.l0 k (L.map (pk b)) 5 p.1 (cut b p) x (i : Int) = some false := by
  intro d
  induction d with
  | zero =>
    intro k i hi hn hk
    obtain ⟨k, rfl⟩ : ∃ q, k = q + 1 := ⟨k - 1, by omega⟩
    simp only [upload_conflict_any.l0]
    rw [if_neg (by rw [List.length_map]; omega)]
  | succ d ih =>
    intro k i hi hn hk
    obtain ⟨k, rfl⟩ : ∃ q, k = q + 1 := ⟨k - 1, by omega⟩
    have hi' : i < L.length := by omega
    simp only [upload_conflict_any.l0]
    have a : upload_agree.f (pk b L[i]).f2 (pk b L[i]).f1 (cut b p) p.1 = some true := agree_is hb (hL L[i] (List.getElem_mem _)).2 hp.2
    rw [if_pos (by rw [List.length_map]; omega), if_pos (by omega), rd_map L i hi', a, Option.bind_some, if_pos rfl, next i (by omega)]
    exact ih k (i + 1) (by omega) hn (by omega)
omit hb in
theorem known_is {p : P} (hp : good b p) (s x : Int) : ∀ (d k i : Nat), i + d = L.length → L.length ≤ 200 → d < k → upload_known_any.l0 k (L.map (pk b)) s p.1 (cut b p) x (i : Int) = some (decide (p ∈ L.drop i)) := by
  intro d
  induction d with
  | zero =>
    intro k i hi hn hk
    obtain ⟨k, rfl⟩ : ∃ q, k = q + 1 := ⟨k - 1, by omega⟩
    simp only [upload_known_any.l0]
    rw [if_neg (by rw [List.length_map]; omega), List.drop_of_length_le (by omega), decide_eq_false (by simp)]
  | succ d ih =>
    intro k i hi hn hk
    obtain ⟨k, rfl⟩ : ∃ q, k = q + 1 := ⟨k - 1, by omega⟩
    have hi' : i < L.length := by omega
    simp only [upload_known_any.l0]
    rw [if_pos (by rw [List.length_map]; omega), if_pos (by omega), rd_map L i hi', Option.bind_some, next i (by omega), List.drop_eq_getElem_cons hi']
    have g := hL L[i] (List.getElem_mem _)
    by_cases h : p = L[i]
    · have e : ((pk b L[i]).f1 == (p.1 : Int) && ((pk b L[i]).f2.length : Int) == ((cut b p).length : Int)) = true := by rw [h]; simp [pk]
      rw [e, if_neg (by decide), decide_eq_true (by rw [h]; exact List.mem_cons_self)]
    · have e : ((pk b L[i]).f1 == (p.1 : Int) && ((pk b L[i]).f2.length : Int) == ((cut b p).length : Int)) = false := by
        rw [Bool.and_eq_false_iff, beq_eq_false_iff_ne, beq_eq_false_iff_ne]
        show (L[i].1 : Int) ≠ p.1 ∨ ((cut b L[i]).length : Int) ≠ _
        rw [cut_length g, cut_length hp]
        by_cases h1 : L[i].1 = p.1
        · refine .inr fun h2 => h (Prod.ext h1.symm (by omega))
        · exact .inl (by omega)
      rw [e, if_pos (by decide), ih k (i + 1) (by omega) hn (by omega)]
      congr 1
      rw [decide_eq_decide, List.mem_cons]
      exact ⟨.inr, fun z => z.resolve_left h⟩
omit hb in
theorem gap_true (s a : Int) (l : List Int) (x s0 : Int) (dt : List Int) : ∀ (d k i : Nat) (acc : List S25), i + d = L.length → L.length ≤ 200 → b.length ≤ 80 → acc.length + d ≤ 1000 → 2 * d < k →
    upload_Receive.l0 k true (L.map (pk b)) (L.length : Int) (i : Int) s a l x s0 dt acc = some (s0, dt, acc ++ (L.drop i).map (pk b), 0) := by
  intro d
  induction d with
  | zero =>
    intro k i acc hi hn hb ha hk
    obtain ⟨k, rfl⟩ : ∃ q, k = q + 1 := ⟨k - 1, by omega⟩
    simp only [upload_Receive.l0]
    rw [if_neg (by omega), if_pos trivial, List.drop_of_length_le (by omega), List.map_nil, List.append_nil]
  | succ d ih =>
    intro k i acc hi hn hb ha hk
    obtain ⟨k, rfl⟩ : ∃ q, k = q + 2 := ⟨k - 2, by omega⟩
    have hi' : i < L.length := by omega
    simp only [upload_Receive.l0, upload_Receive.j2]
    rw [if_pos (by omega), if_pos (by omega), if_pos (by rw [List.length_map]; omega), if_pos trivial, if_neg (by decide), rd_map L i hi', next i (by omega)]
    have g := hL L[i] (List.getElem_mem _)
    have cp : upload_copied.f (pk b L[i]).f0 (pk b L[i]).f1 (pk b L[i]).f2 (pk b L[i]).f3 = some ((pk b L[i]).f0, (pk b L[i]).f1, (pk b L[i]).f2, (pk b L[i]).f3) := by
      unfold upload_copied.f bytes_Clone.f
      have : (pk b L[i]).f2.length = L[i].2 := cut_length g
      have := g.2
      rw [if_pos (by omega), Option.bind_some]
    rw [cp, Option.bind_some, if_pos (by omega), ih k (i + 1) _ (by omega) hn hb (by rw [List.length_append, List.length_singleton]; omega) (by omega), List.drop_eq_getElem_cons hi', List.map_cons, List.append_assoc, List.singleton_append]
omit hb in
theorem gap_false {p : P} (hp : good b p) (s0 : Int) (dt : List Int) : ∀ (d k i : Nat) (acc : List S25), i + d = L.length → L.length ≤ 200 → b.length ≤ 80 → acc.length + d ≤ 900 → 2 * d + 2 < k →
    upload_Receive.l0 k false (L.map (pk b)) (L.length : Int) (i : Int) 5 p.1 (cut b p) (sumP 5 p.1 (cut b p)) s0 dt acc = some (s0, dt, acc ++ (put p (L.drop i)).map (pk b), 0) := by
  have cpy : ∀ q : P, good b q → b.length ≤ 80 → upload_copied.f (pk b q).f0 (pk b q).f1 (pk b q).f2 (pk b q).f3 = some ((pk b q).f0, (pk b q).f1, (pk b q).f2, (pk b q).f3) := by
    intro q g hb
    unfold upload_copied.f bytes_Clone.f
    have : (pk b q).f2.length = q.2 := cut_length g
    have := g.2
    rw [if_pos (by omega), Option.bind_some]
  intro d
  induction d with
  | zero =>
    intro k i acc hi hn hb ha hk
    obtain ⟨k, rfl⟩ : ∃ q, k = q + 1 := ⟨k - 1, by omega⟩
    simp only [upload_Receive.l0]
    have cp : upload_copied.f 5 (p.1 : Int) (cut b p) (sumP 5 p.1 (cut b p)) = _ := cpy p hp hb
    rw [if_neg (by omega), if_neg (by decide), cp, Option.bind_some, if_pos (by omega), List.drop_of_length_le (by omega)]
    rfl
  | succ d ih =>
    intro k i acc hi hn hb ha hk
    obtain ⟨k, rfl⟩ : ∃ q, k = q + 2 := ⟨k - 2, by omega⟩
    have hi' : i < L.length := by omega
    have g := hL L[i] (List.getElem_mem _)
    have bf : upload_before.f 5 (p.1 : Int) (cut b p) (sumP 5 p.1 (cut b p)) (pk b L[i]).f0 (pk b L[i]).f1 (pk b L[i]).f2 (pk b L[i]).f3 = some (decide (bef p L[i])) := by
      show upload_before.f 5 (p.1 : Int) (cut b p) _ 5 (L[i].1 : Int) (cut b L[i]) _ = _
      unfold upload_before.f
      by_cases h1 : p.1 < L[i].1
      · rw [if_pos (by omega), decide_eq_true (show bef p L[i] from .inl h1)]
      · rw [if_neg (by omega)]
        by_cases h2 : p.1 = L[i].1
        · rw [if_pos (by omega), cut_length g, cut_length hp]
          congr 1
          rw [decide_eq_decide]
          unfold bef; omega
        · rw [if_neg (by omega), decide_eq_false (show ¬ bef p L[i] by unfold bef; omega)]
    simp only [upload_Receive.l0, upload_Receive.j2]
    rw [if_pos (by omega), if_pos (by omega), if_pos (by rw [List.length_map]; omega), if_neg (by decide), rd_map L i hi', next i (by omega), bf, Option.bind_some, List.drop_eq_getElem_cons hi']
    unfold put
    by_cases h : bef p L[i]
    · have cp : upload_copied.f 5 (p.1 : Int) (cut b p) (sumP 5 p.1 (cut b p)) = _ := cpy p hp hb
      rw [if_pos (decide_eq_true h), if_pos h, cp, Option.bind_some, if_pos (by omega), Option.bind_some, cpy _ g hb, Option.bind_some, if_pos (by rw [List.length_append, List.length_singleton]; omega),
        gap_true hL 5 p.1 (cut b p) _ s0 dt d k (i + 1) _ (by omega) hn hb (by rw [List.length_append, List.length_append, List.length_singleton, List.length_singleton]; omega) (by omega)]
      simp only [List.append_assoc, List.singleton_append, List.map_cons]
      rfl
    · rw [if_neg (by rw [decide_eq_false h]; decide), if_neg h, cpy _ g hb, Option.bind_some, if_pos (by omega), ih k (i + 1) _ (by omega) hn hb (by rw [List.length_append, List.length_singleton]; omega) (by omega), List.map_cons, List.append_assoc, List.singleton_append]
end

theorem extended_is (hb : b.length ≤ 80) {D : Nat} (hD : D ≤ b.length) {q : P} (hq : good b q) (h : q.1 ≤ D) (s x : Int) : upload_extended.f (b.take D) s q.1 (cut b q) x = some (b.take (max D (q.1 + q.2))) := by
  have lq := cut_length hq
  have lD : (b.take D).length = D := by rw [List.length_take]; omega
  unfold good at hq
  unfold upload_extended.f
  have e : mn (wrap64 (((b.take D).length : Int) - (q.1 : Int))) ((cut b q).length : Int) = ((min (D - q.1) q.2 : Nat) : Int) := by
    rw [lD, lq, w64 (by omega) (by omega), show (D : Int) - (q.1 : Int) = ((D - q.1 : Nat) : Int) by omega, mn_nat]
  rw [e, if_pos (by omega), if_pos (by rw [lq]; omega), Option.bind_some, Int.toNat_natCast, if_pos (by rw [lD, List.length_drop, lq]; omega)]
  congr 1
  unfold cut
  rw [List.drop_take, List.drop_drop]
  by_cases c : D - q.1 ≤ q.2
  · rw [show min (D - q.1) q.2 = D - q.1 by omega, show q.1 + (D - q.1) = D by omega, ← List.take_add]
    congr 1; omega
  · rw [show q.2 - min (D - q.1) q.2 = 0 by omega, List.take_zero, List.append_nil]
    congr 1; omega
theorem absorb_is (hb : b.length ≤ 80) {L : List P} (hL : ∀ q ∈ L, good b q) (hn : L.length ≤ 200) (s : Int) : ∀ (d k i D : Nat) (acc : List S25), i + d = L.length → D ≤ b.length → acc.length + d ≤ 900 → d < k →
    upload_Receive.l1 k (L.map (pk b)) (L.length : Int) (i : Int) s (b.take D) acc = some (s, b.take (absorb (L.drop i) D).1, acc ++ (absorb (L.drop i) D).2.map (pk b), 0) := by
  intro d
  induction d with
  | zero =>
    intro k i D acc hi hD ha hk
    obtain ⟨k, rfl⟩ : ∃ q, k = q + 1 := ⟨k - 1, by omega⟩
    simp only [upload_Receive.l1]
    rw [if_neg (by omega), List.drop_of_length_le (by omega)]
    simp [absorb]
  | succ d ih =>
    intro k i D acc hi hD ha hk
    obtain ⟨k, rfl⟩ : ∃ q, k = q + 1 := ⟨k - 1, by omega⟩
    have hi' : i < L.length := by omega
    have g := hL L[i] (List.getElem_mem _)
    have lD : (b.take D).length = D := by rw [List.length_take]; omega
    simp only [upload_Receive.l1]
    rw [if_pos (by omega), if_pos (by omega), if_pos (by rw [List.length_map]; omega), rd_map L i hi', next i (by omega), List.drop_eq_getElem_cons hi', lD]
    unfold absorb
    by_cases h : L[i].1 ≤ D
    · have ex : upload_extended.f (b.take D) (pk b L[i]).f0 (pk b L[i]).f1 (pk b L[i]).f2 (pk b L[i]).f3 = some (b.take (max D (L[i].1 + L[i].2))) := extended_is hb hD g h _ _
      rw [if_pos (show (pk b L[i]).f1 ≤ (D : Int) by show (L[i].1 : Int) ≤ _; omega), if_pos h, ex, Option.bind_some]
      exact ih k (i + 1) _ acc (by omega) (by have := g.2; omega) (by omega) (by omega)
    · have cp : upload_copied.f (pk b L[i]).f0 (pk b L[i]).f1 (pk b L[i]).f2 (pk b L[i]).f3 = some ((pk b L[i]).f0, (pk b L[i]).f1, (pk b L[i]).f2, (pk b L[i]).f3) := by
        unfold upload_copied.f bytes_Clone.f
        have : (pk b L[i]).f2.length = L[i].2 := cut_length g
        have := g.2
        rw [if_pos (by omega), Option.bind_some]
      rw [if_neg (show ¬ (pk b L[i]).f1 ≤ (D : Int) by show ¬ (L[i].1 : Int) ≤ _; omega), if_neg h, cp, Option.bind_some, if_pos (by omega), ih k (i + 1) D _ (by omega) hD (by rw [List.length_append, List.length_singleton]; omega) (by omega), List.map_cons, List.append_assoc, List.singleton_append]

/-- Receive answers what 'rcv' tells. -/
theorem Receive_is (hb : b.length ≤ 80) {s : Nat × List P} (h : Inv b s) {p : P} (hp : good b p) {k : Nat} (hk : 50000 ≤ k) :
    upload_Receive.f k 5 (b.take s.1) (s.2.map (pk b)) (pk b p).f0 (pk b p).f1 (pk b p).f2 (pk b p).f3 = some (5, b.take (rcv s p).1, (rcv s p).2.map (pk b), 0) := by
  obtain ⟨D, L⟩ := s
  obtain ⟨h1, h2, h3, h4⟩ := h
  simp only at h1 h2 h3 h4
  have hL : ∀ q ∈ L, good b q := fun q hq => (h2 q hq).1
  have lD : (b.take D).length = D := by rw [List.length_take]; omega
  have lL : (L.map (pk b)).length = L.length := List.length_map _
  show upload_Receive.f k 5 (b.take D) (L.map (pk b)) 5 (p.1 : Int) (cut b p) (sumP 5 p.1 (cut b p)) = _
  have v : upload_valid.f k 5 (b.take D) (L.map (pk b)) = some true := by
    unfold upload_valid.f upload_number.f
    rw [if_pos (by decide), Option.bind_some, if_pos (by decide), if_neg (by omega), if_neg (by omega), lL]
    have := valid_l0 hb hL h3 h4 h1 (fun q hq => (h2 q hq).2) L.length k 0 (by omega) (by omega)
    rw [Int.ofNat_zero] at this
    exact this
  have cf : upload_conflict.f k 5 (b.take D) (L.map (pk b)) 5 p.1 (cut b p) (sumP 5 p.1 (cut b p)) = some false := by
    unfold upload_conflict.f upload_conflict_any.f
    have := any_false hb hL hp (sumP 5 p.1 (cut b p)) L.length k 0 (by omega) h4 (by omega)
    rw [Int.ofNat_zero] at this
    rw [agree_data hb h1 hp, Option.bind_some, if_pos rfl, this, Option.bind_some]
  have kn : upload_known_any.f k (L.map (pk b)) 5 p.1 (cut b p) (sumP 5 p.1 (cut b p)) = some (decide (p ∈ L)) := by
    unfold upload_known_any.f
    have := known_is hL hp 5 (sumP 5 p.1 (cut b p)) L.length k 0 (by omega) h4 (by omega)
    rw [Int.ofNat_zero, List.drop_zero] at this
    exact this
  unfold upload_Receive.f
  rw [v, Option.bind_some, if_pos rfl, check_is _ _ _ _ (by omega), Option.bind_some, pk_ck hb hp, if_pos rfl, if_pos rfl, cf, Option.bind_some, if_neg (by decide)]
  unfold bytes_Clone.f
  rw [if_pos (by omega), Option.bind_some, lD, lL]
  unfold rcv
  obtain ⟨k, rfl⟩ : ∃ q, k = q + 1 := ⟨k - 1, by omega⟩
  by_cases c : D < p.1
  · rw [if_pos (by omega), if_pos c, kn, Option.bind_some]
    by_cases m : p ∈ L
    · have := gap_true hL 5 p.1 (cut b p) (sumP 5 p.1 (cut b p)) 5 (b.take D) L.length k 0 [] (by omega) h4 hb (by simp; omega) (by omega)
      rw [Int.ofNat_zero, List.drop_zero, List.nil_append] at this
      rw [decide_eq_true m, if_pos rfl]
      simp only [upload_Receive.j0]
      rw [if_neg (by decide), lL, this, if_pos m]
    · have := gap_false hL hp 5 (b.take D) L.length k 0 [] (by omega) h4 hb (by simp; omega) (by omega)
      rw [Int.ofNat_zero, List.drop_zero, List.nil_append] at this
      rw [decide_eq_false m, if_neg (by decide), decide_eq_false (by omega)]
      simp only [upload_Receive.j0]
      rw [if_neg (by decide), lL, this, if_neg m]
  · have hp' := hp
    unfold good at hp'
    have := absorb_is hb hL h4 5 L.length (k + 1) 0 (max D (p.1 + p.2)) [] (by omega) (by omega) (by simp; omega) (by omega)
    rw [Int.ofNat_zero, List.drop_zero, List.nil_append] at this
    rw [if_neg (by omega), if_neg c, extended_is hb h1 hp (by omega), Option.bind_some, this]
/-- what a journal's packets lead to -/
theorem inv_of {S : P → Prop} {s : Nat × List P} (h : Canon.Can S s) (g : ∀ q, S q → good b q) (f : s.2.length ≤ 200) : Inv b s :=
  ⟨can_top h fun p hp => (g p hp).2, fun q hq => ⟨g q ((h.c3 q).1 hq).1, ((h.c3 q).1 hq).2⟩, h.c4, f⟩
end Go.Proofs.Ytglpnbcockancaa.Upl
