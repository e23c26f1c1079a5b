/- DigestSplit in plain Lean, for bytes a, b of up to 1048576 each: the printed law answers true. And the call, from that. -/
import Derived.Test.YtmjedihfibdhfaaAwk
namespace Go.Proofs.Ytmjedihfibdhfaa.Pure
open Go.RowKit Go.Proofs.Ytmjedihfibdhfaa.Q Go.Proofs.YtmjedihfibdhfaaW.PrintWords Go.Proofs.YtmjedihfibdhfaaW.PrintLast Go.Proofs.YtmjedihfibdhfaaW.PrintMore Go.Proofs.Ytmjedihfibdhfaa.Dig
theorem shr_byte (h : Int) (s : Nat) (hs : s ≤ 64) : shr .u64 h (s : Int) % 256 = h / 2 ^ s % 256 := by rw [shrU h s hs]
theorem DigestSplit (h : Int) (a b : List Int) (wh : (Lit.int .u64 h).wf = true) (ha : a.length ≤ 1048576) (hb : b.length ≤ 1048576) :
    ∃ k, examboardlaw11_DigestSplit.f k h a b = some true := by
  have uh := u64_of_wf wh
  obtain ⟨k, hk⟩ : ∃ k, 3000000 ≤ k := ⟨_, Nat.le_refl _⟩
  refine ⟨k + 1, ?_⟩
  unfold examboardlaw11_DigestSplit.f
  have ej : ∀ x y : List Int, x.length + y.length < 3000000 → examboardlaw11_join.f x y = some (x ++ y) := by
    intro x y h
    unfold examboardlaw11_join.f
    simp only [Option.bind_some, List.length_nil, List.nil_append]
    rw [if_pos (by omega), if_pos (by omega)]
  have hl : (a ++ b).length = a.length + b.length := List.length_append
  unfold digest_Of.f
  rw [bound (ej a b (by omega)), bound (Add_is uh (by omega) (by omega)), bound (Add_is (iv_u64 _) (by omega) (by omega)), bound (Add_is uh (by omega) (by omega)), bv_iv, if_pos (by rw [addB_append])]
  rw [bound (bound (Add_is start_u64 (by omega) (by omega))), bound (Add_is (iv_u64 _) (by omega) (by omega)), bound (bound (Add_is start_u64 (by omega) (by omega))), bv_iv, if_pos (by rw [addB_append])]
  rw [bound (Add_is (l := []) uh (by simp) (by simp))]
  rw [addB_nil, iv_bv uh, show (h != h) = false from bne_self_eq_false h]
  simp only [examboardlaw11_DigestSplit.j0]
  rw [if_neg (by decide)]
  have e8 : [(h / 72057594037927936) % 256, (h / 281474976710656) % 256, (h / 1099511627776) % 256, (h / 4294967296) % 256, (h / 16777216) % 256, (h / 65536) % 256, (h / 256) % 256, h % 256] = be8 h := rfl
  rw [e8]
  have h8 := be8_length h
  have l1 : (a ++ be8 h).length = a.length + 8 := by rw [List.length_append, h8]
  have l2 : (be8 h ++ a).length = a.length + 8 := by rw [List.length_append, h8]; omega
  have eOf : ∀ x : List Int, x.length < 3000000 → digest_Of.f k x = some (iv (addB Dig.start x)) := by
    intro x hx
    unfold digest_Of.f
    rw [bound (Add_is start_u64 (by omega) (by omega)), bv_start]
  rw [Option.bind_some, bound (eOf a (by omega)), bound (Number_is (iv_u64 _) uh (by omega)), bound (ej a (be8 h) (by omega)), bound (eOf _ (by omega)), bv_iv, if_pos (by rw [addB_append])]
  rw [bound (Chain_is uh (by omega) (by omega) (by omega)), bound (ej (be8 h) a (by omega)), bound (eOf _ (by omega)), if_pos rfl]
  rw [bound (Chain_is uh (by omega) (by omega) (by omega)), bound (Add_is (iv_u64 _) (by omega) (by omega)), bound (Chain_is uh (by omega) (by omega) (by omega)), bv_iv, if_pos (by rw [addB_append, addB_append, addB_append])]
  rw [bound (awake_is (by omega))]
set_option linter.unusedVariables false in
theorem DigestSplit_walk (a0 : Int) (a1 : Option Addr) (len1 cap1 : Nat) (z1 : List Int) (a2 : Option Addr) (len2 cap2 : Nat) (z2 : List Int) (w : World) (w0 : (Lit.int .u64 a0).wf = true) (w1 : (a1 = none ∧ len1 = 0 ∧ cap1 = 0 ∧ z1 = []) ∨ ∃ x, a1 = some x ∧ len1 ≤ cap1 ∧ cap1 ≤ maxLen ∧ z1.length = cap1 ∧ (∀ i, i < z1.length → w.cell? (x.add i) = some (.int .u8 (z1.getD i 0))) ∧ ∀ n ∈ z1, (Lit.int .u8 n).wf = true) (y1 : len1 * 1 ≤ 140737488351232) (w2 : (a2 = none ∧ len2 = 0 ∧ cap2 = 0 ∧ z2 = []) ∨ ∃ x, a2 = some x ∧ len2 ≤ cap2 ∧ cap2 ≤ maxLen ∧ z2.length = cap2 ∧ (∀ i, i < z2.length → w.cell? (x.add i) = some (.int .u8 (z2.getD i 0))) ∧ ∀ n ∈ z2, (Lit.int .u8 n).wf = true) (y2 : len2 * 1 ≤ 140737488351232) (u1 : len1 ≤ 1048576) (u2 : len2 ≤ 1048576) :
    Calls Try.prog 8 #[.int .u64 a0, .slice a1 len1 cap1, .slice a2 len2 cap2] w fun e w' => e = .returned (.bool true) ∧ Below w.heap.size w w' := by
  obtain ⟨l1, rfl, hr1, hm1, hw1, hc1⟩ := ReadsInt.ofRowC w1
  obtain ⟨l2, rfl, hr2, hm2, hw2, hc2⟩ := ReadsInt.ofRowC w2
  obtain ⟨k, h⟩ := DigestSplit a0 l1 l2 w0 u1 u2
  refine (examboardlaw11_DigestSplit.calls k a0 _ _ l1 _ _ l2 true w (Kd.C_of_reads (d := (0 : Int)) (h1 := fun _ => rfl) hr1) hc1 (Kd.C_of_reads (d := (0 : Int)) (h1 := fun _ => rfl) hr2) hc2 h).mono ?_
  rintro e w' ⟨rfl, hd⟩
  exact ⟨rfl, hd⟩
end Go.Proofs.Ytmjedihfibdhfaa.Pure
