import Derived.Test.YtglpnbcockancaaQx19
import Derived.Test.YtglpnbcockancaaFlt
import Derived.Test.YtglpnbcockancaaExample
namespace Go.Proofs.Ytglpnbcockancaa.Pure
open Go.RowKit Go.Proofs.Ytglpnbcockancaa.Q Go.Proofs.Ytglpnbcockancaa.Dig Go.Proofs.Ytglpnbcockancaa.Upl Go.Proofs.Ytglpnbcockancaa.Canon Go.Proofs.YtglpnbcockancaaW.PrintWords Go.Proofs.YtglpnbcockancaaW.PrintLast Go.Proofs.YtglpnbcockancaaW.PrintMore

variable {b : List Int}
/-- which bytes have come: told by the packets that have come -/
def Got (n : Nat) (S : P → Prop) (g : List Bool) : Prop := g.length = n ∧ ∀ j, j < n → (g.getD j false = true ↔ ∃ p, S p ∧ p.1 ≤ j ∧ j < p.1 + p.2)
theorem rd_bool (g : List Bool) (j : Nat) : rdOf false g (j : Int) = g.getD j false := by unfold rdOf; simp
theorem once_l2 {S : P → Prop} {s : Nat × List P} (h : Canon.Can S s) (hS : ∀ q, S q → good b q) (hb : b.length ≤ 80) {g : List Bool} (hg : Got b.length S g) : ∀ (d k j : Nat), j + d = s.1 → j ≤ s.1 → 64 + d < k →
    examboardlaw53_UploadOnce.l2 k b g (j : Int) 5 (b.take s.1) (s.2.map (pk b)) = some true := by
  have top : s.1 ≤ b.length := can_top h fun p hp => (hS p hp).2
  have lD : (b.take s.1).length = s.1 := by rw [List.length_take]; omega
  intro d
  induction d with
  | zero =>
    intro k j hj hl hk
    obtain ⟨k, rfl⟩ : ∃ q, k = q + 1 := ⟨k - 1, by omega⟩
    obtain rfl : j = s.1 := by omega
    simp only [examboardlaw53_UploadOnce.l2]
    by_cases c : s.1 < b.length
    · have no : ¬ g.getD s.1 false = true := fun h1 => by
        obtain ⟨p, hp, h2, h3⟩ := (hg.2 s.1 c).1 h1
        have := h.c1 p hp h2
        omega
      rw [if_pos (by omega), if_pos (by omega), if_pos (by rw [hg.1]; omega), rd_bool, if_neg no, if_pos (by rw [lD]), awake_is (by omega), Option.bind_some]
    · have nil : s.2 = [] := by
        refine List.eq_nil_iff_forall_not_mem.2 fun q hq => ?_
        have h6 := (h.c3 q).1 hq
        have h7 := hS q h6.1
        unfold good at h7; omega
      rw [if_neg (by omega), if_pos (by rw [lD]), nil, if_pos (by simp), awake_is (by omega), Option.bind_some]
  | succ d ih =>
    intro k j hj hl hk
    obtain ⟨k, rfl⟩ : ∃ q, k = q + 1 := ⟨k - 1, by omega⟩
    simp only [examboardlaw53_UploadOnce.l2]
    have yes : g.getD j false = true := (hg.2 j (by omega)).2 (h.c2 j (by omega))
    rw [if_pos (by omega), if_pos (by omega), if_pos (by rw [hg.1]; omega), rd_bool, if_pos yes, Upl.next j (by omega)]
    exact ih k (j + 1) (by omega) (by omega) (by omega)
/-- the bytes of one packet more -/
theorem got_set {n : Nat} {S : P → Prop} {p : P} : ∀ (m : Nat) {g : List Bool}, Got n (fun q => S q ∨ (∃ e, q = (p.1, e) ∧ e = m ∧ 0 < e)) g → p.1 + m < n → Got n (fun q => S q ∨ (∃ e, q = (p.1, e) ∧ e = m + 1 ∧ 0 < e)) (g.set (p.1 + m) true) := by
  intro m g h hm
  refine ⟨by rw [List.length_set]; exact h.1, fun j hj => ?_⟩
  have hl := h.1
  by_cases e : j = p.1 + m
  · subst e
    rw [List.getD_eq_getElem?_getD, List.getElem?_set_self (by omega), Option.getD_some]
    exact ⟨fun _ => ⟨(p.1, m + 1), .inr ⟨m + 1, rfl, rfl, by omega⟩, by show p.1 ≤ p.1 + m; omega, by show p.1 + m < p.1 + (m + 1); omega⟩, fun _ => rfl⟩
  · rw [List.getD_eq_getElem?_getD, List.getElem?_set_ne (by omega), ← List.getD_eq_getElem?_getD, h.2 j hj]
    constructor
    · rintro ⟨q, hq | ⟨e', rfl, rfl, h3⟩, h1, h2⟩
      · exact ⟨q, .inl hq, h1, h2⟩
      · exact ⟨(p.1, e' + 1), .inr ⟨e' + 1, rfl, rfl, by omega⟩, h1, by show j < p.1 + (e' + 1); simp only at h2; omega⟩
    · rintro ⟨q, hq | ⟨e', rfl, rfl, h3⟩, h1, h2⟩
      · exact ⟨q, .inl hq, h1, h2⟩
      · simp only at h1 h2
        exact ⟨(p.1, m), .inr ⟨m, rfl, rfl, by omega⟩, h1, by show j < p.1 + m; omega⟩
theorem once_l1 (hb : b.length ≤ 80) {p : P} (hp : good b p) {S : P → Prop} (x7 : List S25) (o : List Int) (ol : Int) (i : Nat) (hi : i < 1000000) (s0 : Int) (dt : List Int) (lt : List S25) : ∀ (d k j : Nat) (g : List Bool), j + d = p.2 → Got b.length (fun q => S q ∨ (∃ e, q = (p.1, e) ∧ e = j ∧ 0 < e)) g →
    ∃ g', Got b.length (fun q => S q ∨ q = p) g' ∧ examboardlaw53_UploadOnce.l1 (k + d + 1) x7 b g o ol (i : Int) (p.2 : Int) (j : Int) s0 dt lt 5 p.1 (cut b p) (sumP 5 p.1 (cut b p)) = examboardlaw53_UploadOnce.l0 k x7 b g' o ol ((i + 1 : Nat) : Int) s0 dt lt := by
  have hp' := hp
  unfold good at hp'
  intro d
  induction d with
  | zero =>
    intro k j g hj h
    obtain rfl : j = p.2 := by omega
    refine ⟨g, ⟨h.1, fun j hj => ?_⟩, ?_⟩
    · rw [h.2 j hj]
      constructor
      · rintro ⟨q, hq | ⟨e, rfl, rfl, h3⟩, h1⟩
        · exact ⟨q, .inl hq, h1⟩
        · exact ⟨_, .inr rfl, h1⟩
      · rintro ⟨q, hq | rfl, h1⟩
        · exact ⟨q, .inl hq, h1⟩
        · exact ⟨q, .inr ⟨q.2, rfl, rfl, by omega⟩, h1⟩
    · simp only [examboardlaw53_UploadOnce.l1]
      rw [if_neg (by omega), Upl.next i hi]
  | succ d ih =>
    intro k j g hj h
    obtain ⟨g', h1, h2⟩ := ih k (j + 1) (g.set (p.1 + j) true) (by omega) (got_set j h (by omega))
    refine ⟨g', h1, ?_⟩
    rw [show k + (d + 1) + 1 = (k + d + 1) + 1 by omega]
    simp only [examboardlaw53_UploadOnce.l1]
    have e : wrap64 ((p.1 : Int) + (j : Int)) = ((p.1 + j : Nat) : Int) := by rw [w64 (by omega) (by omega)]; omega
    rw [if_pos (by omega), e, if_pos (by omega), if_pos (by rw [h.1]; omega), Int.toNat_natCast, Upl.next j (by omega)]
    exact h2
theorem once_l0 (hb : b.length ≤ 80) {ps : List P} (hg : ∀ p ∈ ps, good b p) {o : List Int} (ho : Bytes o) : ∀ (e k i : Nat) (s : Nat × List P) (S : P → Prop) (g : List Bool), i + e = 100 → Canon.Can S s → (∀ q, S q → q ∈ ps) → s.2.length ≤ i → Got b.length S g → 60000 + 100 * e ≤ k →
    examboardlaw53_UploadOnce.l0 k (ps.map (pk b)) b g o (o.length : Int) (i : Int) 5 (b.take s.1) (s.2.map (pk b)) = some true := by
  have last : ∀ (k : Nat) (s : Nat × List P) (S : P → Prop) (g : List Bool), Canon.Can S s → (∀ q, S q → q ∈ ps) → Got b.length S g → 50000 ≤ k → examboardlaw53_UploadOnce.j3 k b g 5 (b.take s.1) (s.2.map (pk b)) = some true := by
    intro k s S g h1 h2 h3 hk
    obtain ⟨k, rfl⟩ : ∃ q, k = q + 1 := ⟨k - 1, by omega⟩
    have top : s.1 ≤ b.length := can_top h1 fun p hp => (hg p (h2 p hp)).2
    simp only [examboardlaw53_UploadOnce.j3]
    exact once_l2 h1 (fun q hq => hg q (h2 q hq)) hb h3 s.1 k 0 (by omega) (by omega) (by omega)
  intro e
  induction e with
  | zero =>
    intro k i s S g hi h1 h2 h3 h4 hk
    obtain rfl : i = 100 := by omega
    obtain ⟨k, rfl⟩ : ∃ q, k = q + 2 := ⟨k - 2, by omega⟩
    simp only [examboardlaw53_UploadOnce.l0, examboardlaw53_UploadOnce.j1]
    by_cases c : ((100 : Nat) : Int) < (o.length : Int)
    · rw [if_pos c, if_pos (by omega), if_pos c, if_pos (by omega), if_pos trivial]
      exact last k s S g h1 h2 h4 (by omega)
    · rw [if_neg c]
      exact last (k + 1) s S g h1 h2 h4 (by omega)
  | succ e ih =>
    intro k i s S g hi h1 h2 h3 h4 hk
    obtain ⟨k, rfl⟩ : ∃ q, k = q + 2 := ⟨k - 2, by omega⟩
    simp only [examboardlaw53_UploadOnce.l0, examboardlaw53_UploadOnce.j1, upload_Need.f]
    by_cases c : (i : Int) < (o.length : Int)
    · rw [if_pos c, if_pos (by omega), if_pos c, if_neg (by omega), List.length_map]
      by_cases z : ps.length = 0
      · rw [if_pos (by rw [z]; rfl)]
        exact last k s S g h1 h2 h4 (by omega)
      · have hx := ho (rd o (i : Int)) (by rw [rd_at o i (by omega)]; exact List.getElem_mem _)
        have lt : (rd o (i : Int)).toNat % ps.length < ps.length := Nat.mod_lt _ (by omega)
        rw [if_neg (by rw [beq_iff_eq]; omega), if_neg (by omega), pick_is hx]
        generalize (rd o (i : Int)).toNat % ps.length = j at lt
        have hm : ps[j] ∈ ps := List.getElem_mem _
        have gp := hg _ hm
        have inv : Inv b s := inv_of h1 (fun q hq => hg q (h2 q hq)) (by omega)
        have can' := can_rcv h1 ps[j]
        have top' : (rcv s ps[j]).1 ≤ b.length := can_top can' fun p h => by
          rcases h with h | rfl
          · exact (hg p (h2 p h)).2
          · exact gp.2
        have le := rcv_le s ps[j]
        have lD : (b.take (rcv s ps[j]).1).length = (rcv s ps[j]).1 := by rw [List.length_take]; omega
        have lD0 : (b.take s.1).length = s.1 := by rw [List.length_take]; omega
        have gpl := cut_length gp
        have gp' := gp.2
        obtain ⟨k', rfl⟩ : ∃ q, k = q + ps[j].2 + 1 := ⟨k - ps[j].2 - 1, by omega⟩
        obtain ⟨g', h5, h6⟩ := once_l1 hb gp (S := S) (ps.map (pk b)) o (o.length : Int) i (by omega) 5 (b.take (rcv s ps[j]).1) ((rcv s ps[j]).2.map (pk b)) ps[j].2 k' 0 g (by omega) ⟨h4.1, fun j hj => by
          rw [h4.2 j hj]
          constructor
          · rintro ⟨q, hq, h⟩; exact ⟨q, .inl hq, h⟩
          · rintro ⟨q, hq | ⟨e, _, h7, h8⟩, h⟩
            · exact ⟨q, hq, h⟩
            · omega⟩
        rw [if_pos (by omega), if_pos (by omega), rd_map ps j lt, Receive_is hb inv gp (by omega), Option.bind_some, if_pos rfl, Option.bind_some]
        simp only []
        rw [if_pos trivial, if_neg (by rw [lD]; omega), if_pos (by omega), if_pos (by rw [lD]; omega), lD, Int.toNat_natCast, equal_refl (by omega) (by omega), Option.bind_some, if_pos rfl, if_neg (by rw [lD0]; omega)]
        have e1 : ((pk b ps[j]).f2.length : Int) = (ps[j].2 : Int) := by show ((cut b ps[j]).length : Int) = _; rw [gpl]
        rw [e1]
        refine Eq.trans h6 ?_
        refine ih k' (i + 1) _ _ g' (by omega) can' (fun q h => ?_) (by have := rcv_length s ps[j]; omega) h5 (by omega)
        rcases h with h | rfl
        · exact h2 q h
        · exact hm
    · rw [if_neg c]
      exact last (k + 1) s S g h1 h2 h4 (by omega)
theorem UploadOnce (l o : List Int) (x y : Int) (hl : Bytes l) (ho : Bytes o) (hx : 0 ≤ x ∧ x < 256) (hy : 0 ≤ y ∧ y < 256) : ∃ k, examboardlaw53_UploadOnce.f k l x y o = some true := by
  obtain ⟨k, hk⟩ : ∃ k : Nat, 1070000 ≤ k := ⟨_, Nat.le_refl _⟩
  refine ⟨k, ?_⟩
  have lb := jr_length l
  have n5 : nw 5 = (5, [], [], 0) := by unfold nw; rw [if_pos (by omega)]
  unfold examboardlaw53_UploadOnce.f
  rw [fleet_is l hx hy (by omega), Option.bind_some, New_is, Option.bind_some, n5]
  simp only []
  rw [if_pos trivial, if_pos trivial, if_pos (by omega), if_pos (by rw [Int.toNat_natCast]; omega), Int.toNat_natCast]
  refine once_l0 lb (fl_good l x y) ho 100 k 0 (0, []) (fun _ => False) _ (by omega) can_nil (fun _ h => h.elim) (by simp) ⟨List.length_replicate, fun j hj => ?_⟩ (by omega)
  rw [List.getD_eq_getElem?_getD, List.getElem?_replicate, if_pos hj, Option.getD_some]
  exact ⟨fun h => absurd h (by decide), fun ⟨_, h, _⟩ => h.elim⟩
end Go.Proofs.Ytglpnbcockancaa.Pure
