/- What the statements' own state answers: an inbox that holds at most 30 of the journal's packets. -/
import Derived.Test.YtglpnbcockancaaQx8
import Derived.Test.YtglpnbcockancaaFlt
namespace Go.Proofs.Ytglpnbcockancaa.Upl
open Go.RowKit Go.Proofs.Ytglpnbcockancaa.Q Go.Proofs.Ytglpnbcockancaa.Dig Go.Proofs.Ytglpnbcockancaa.Canon Go.Proofs.YtglpnbcockancaaW.PrintWords Go.Proofs.YtglpnbcockancaaW.PrintLast Go.Proofs.YtglpnbcockancaaW.PrintMore

variable {b : List Int}
/-- an inbox that has come about by at most n packets of ps -/
def Sta (ps : List P) (n : Nat) (s : Nat × List P) : Prop := ∃ S : P → Prop, Canon.Can S s ∧ (∀ q, S q → q ∈ ps) ∧ s.2.length ≤ n
theorem sta_rcv {ps : List P} {n : Nat} {s : Nat × List P} (h : Sta ps n s) {p : P} (hp : p ∈ ps) : Sta ps (n + 1) (rcv s p) := by
  obtain ⟨S, h1, h2, h3⟩ := h
  refine ⟨_, can_rcv h1 p, fun q hq => ?_, by have := rcv_length s p; omega⟩
  rcases hq with hq | rfl
  · exact h2 q hq
  · exact hp
theorem sta_inv {ps : List P} (hg : ∀ p ∈ ps, good b p) {n : Nat} {s : Nat × List P} (h : Sta ps n s) (hn : n ≤ 200) : Inv b s := by
  obtain ⟨S, h1, h2, h3⟩ := h
  exact inv_of h1 (fun q hq => hg q (h2 q hq)) (by omega)
theorem state_l0 (hb : b.length ≤ 80) {ps : List P} (hg : ∀ p ∈ ps, good b p) {o : List Int} (ho : Bytes o) : ∀ (e k i : Nat) (s : Nat × List P), i + e = 30 → Sta ps i s → 60000 + 2 * e ≤ k →
    ∃ s', Sta ps 30 s' ∧ examboardlaw53_state.l0 k (ps.map (pk b)) o (o.length : Int) (i : Int) 5 (b.take s.1) (s.2.map (pk b)) = some (5, b.take s'.1, s'.2.map (pk b), true) := by
  intro e
  induction e with
  | zero =>
    intro k i s hi hs hk
    obtain rfl : i = 30 := by omega
    obtain ⟨k, rfl⟩ : ∃ q, k = q + 2 := ⟨k - 2, by omega⟩
    refine ⟨s, hs, ?_⟩
    simp only [examboardlaw53_state.l0, examboardlaw53_state.j1]
    by_cases c : ((30 : Nat) : Int) < (o.length : Int)
    · rw [if_pos c, if_pos (by omega), if_pos c, if_pos (by omega), if_pos trivial]
    · rw [if_neg c]
  | succ e ih =>
    intro k i s hi hs hk
    obtain ⟨k, rfl⟩ : ∃ q, k = q + 2 := ⟨k - 2, by omega⟩
    have mono30 : Sta ps 30 s := by obtain ⟨S, h1, h2, h3⟩ := hs; exact ⟨S, h1, h2, by omega⟩
    simp only [examboardlaw53_state.l0, examboardlaw53_state.j1]
    by_cases c : (i : Int) < (o.length : Int)
    · rw [if_pos c, if_pos (by omega), if_pos c, if_neg (by omega), List.length_map]
      by_cases z : ps.length = 0
      · refine ⟨s, mono30, ?_⟩
        rw [if_pos (by rw [z]; rfl)]
      · have hx := ho (rd o (i : Int)) (by rw [rd_at o i (by omega)]; exact List.getElem_mem _)
        have lt : (rd o (i : Int)).toNat % ps.length < ps.length := Nat.mod_lt _ (by omega)
        rw [if_neg (by rw [beq_iff_eq]; omega), if_neg (by omega), pick_is hx]
        generalize (rd o (i : Int)).toNat % ps.length = j at lt
        have hm : ps[j] ∈ ps := List.getElem_mem _
        rw [if_pos (by omega), if_pos (by omega), rd_map ps j lt, Receive_is hb (sta_inv hg hs (by omega)) (hg _ hm) (by omega), Option.bind_some, if_pos rfl, next i (by omega)]
        exact ih k (i + 1) _ (by omega) (sta_rcv hs hm) (by omega)
    · refine ⟨s, mono30, ?_⟩
      rw [if_neg c]
theorem state_is (hb : b.length ≤ 80) {ps : List P} (hg : ∀ p ∈ ps, good b p) {o : List Int} (ho : Bytes o) {k : Nat} (hk : 1060000 ≤ k) :
    ∃ s, Sta ps 30 s ∧ examboardlaw53_state.f k (ps.map (pk b)) o = some (5, b.take s.1, s.2.map (pk b), true) := by
  obtain ⟨s, h, e⟩ := state_l0 hb hg ho 30 k 0 (0, []) (by omega) ⟨_, can_nil, fun _ h => h.elim, by simp⟩ (by omega)
  refine ⟨s, h, ?_⟩
  unfold examboardlaw53_state.f
  have n5 : nw 5 = (5, [], [], 0) := by unfold nw; rw [if_pos (by omega)]
  rw [New_is, Option.bind_some, n5]
  exact e
end Go.Proofs.Ytglpnbcockancaa.Upl
