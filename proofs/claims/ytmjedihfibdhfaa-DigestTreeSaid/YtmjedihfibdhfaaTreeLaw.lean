/- DigestTree: for every array of 16 digests, every k and every list b: the root of the first 2^(k%5) digests followed by at most as many of b is joined at the top; the examples hold. -/
import Derived.Test.YtmjedihfibdhfaaTreeWalk
namespace Go.Proofs.Ytmjedihfibdhfaa.TreeLaw
open Go.RowKit Go.Proofs.Ytmjedihfibdhfaa.Q Go.Proofs.YtmjedihfibdhfaaW.PrintWords Go.Proofs.YtmjedihfibdhfaaW.PrintLast Go.Proofs.YtmjedihfibdhfaaW.PrintMore Go.Proofs.Ytmjedihfibdhfaa.Dig
/-- What the program's Root and Number answer, for a full tree a and a shorter list b: the plain law. -/
theorem answers {al b : List Int} {j : Nat} (ha : al.length = 2 ^ j) (hj : j ≤ 4) (hb0 : 0 < b.length) (hb : b.length ≤ 2 ^ j) (ua : U64s al) (ub : U64s b) :
    ∃ (k : Nat) (r1 r2 r3 r4 r5 r6 : Int), digest_Root.f k (al ++ b) = some r1 ∧ digest_Root.f k al = some r2 ∧ digest_Number.f k 14695981039346656037 r2 = some r3 ∧ digest_Root.f k b = some r4 ∧ digest_Number.f k r3 r4 = some r5 ∧
      digest_Root.f k (b.take 1) = some r6 ∧ examboardlaw11_awake.f k = some true ∧ (r1 == r5) = true ∧ (r6 == rd b 0) = true := by
  have hp : (2 : Nat) ^ j ≤ 2 ^ 4 := Nat.pow_le_pow_right (by decide) hj
  have hp0 : 0 < (2 : Nat) ^ j := Nat.pow_pos (by decide)
  have hab : (al ++ b).length = al.length + b.length := List.length_append
  have hu : U64s (al ++ b) := fun x hx => (List.mem_append.1 hx).elim (ua x) (ub x)
  have ht : (b.take 1).length = 1 := by rw [List.length_take]; omega
  have hut : U64s (b.take 1) := fun x hx => ub x (List.mem_of_mem_take hx)
  obtain ⟨K1, e1⟩ := Root_is hu (by omega)
  obtain ⟨K2, e2⟩ := Root_is ua (by omega)
  obtain ⟨K4, e4⟩ := Root_is ub (by omega)
  obtain ⟨K6, e6⟩ := Root_is hut (by omega)
  rw [if_neg (by omega)] at e1 e2 e4 e6
  obtain ⟨k, hk⟩ : ∃ k, K1 + K2 + K4 + K6 + 50 ≤ k := ⟨_, Nat.le_refl _⟩
  have hr : ∀ (n : Nat) (l : List Int), l.length ≤ n → 0 < l.length → U64s l → U64 (root l) := by
    intro n
    induction n using Nat.strongRecOn with
    | _ n ih =>
      intro l hn h0 hul
      by_cases h1 : 1 < l.length
      · rw [root_more h1]
        have hpl := pairUp_length l
        exact ih (pairUp l).length (by omega) _ (Nat.le_refl _) (by omega) (pairUp_u64 hul)
      · rw [root_one (by omega)]
        exact rd_u64 hul 0 h0
  have ua' := hr _ al (Nat.le_refl _) (by omega) ua
  have ub' := hr _ b (Nat.le_refl _) (by omega) ub
  refine ⟨k, _, _, _, _, _, _, e1 k (by omega), e2 k (by omega), Number_is start_u64 ua' (by omega), e4 k (by omega), Number_is (iv_u64 _) ub' (by omega), e6 k (by omega), awake_is (by omega), ?_, ?_⟩
  · rw [root_join j al b ha hb0 hb, bv_iv, bv_start]
    exact beq_self_eq_true _
  · rw [root_one ht]
    have : rd (b.take 1) 0 = rd b 0 := by
      cases b with
      | nil => simp at hb0
      | cons x b => rfl
    rw [this]
    exact beq_self_eq_true _
theorem shift_five (kk : Int) : ∃ j : Nat, j ≤ 4 ∧ IntKind.i64.wrap (2 ^ (kk % 5).toNat) = ((2 ^ j : Nat) : Int) := by
  refine ⟨(kk % 5).toNat, by omega, ?_⟩
  have h : (kk % 5).toNat = 0 ∨ (kk % 5).toNat = 1 ∨ (kk % 5).toNat = 2 ∨ (kk % 5).toNat = 3 ∨ (kk % 5).toNat = 4 := by omega
  rcases h with h | h | h | h | h <;> rw [h] <;> rfl
/-- The call, for every argument. -/
theorem tree_calls (a0 a1 a2 a3 a4 a5 a6 a7 a8 a9 a10 a11 a12 a13 a14 a15 kk : Int) (A2 : Option Addr) (c2 : Nat) (b : List Int) (w : World) (hk0 : 0 ≤ kk) (hk : kk < 256) (hr : Kd.C (Kd.int .u64) w A2 b.length b) (hc : b.length ≤ c2)
    (ua : U64s [a0, a1, a2, a3, a4, a5, a6, a7, a8, a9, a10, a11, a12, a13, a14, a15]) (ub : U64s b) :
    Calls Try.prog 5 #[.agg #[.int .u64 a0, .int .u64 a1, .int .u64 a2, .int .u64 a3, .int .u64 a4, .int .u64 a5, .int .u64 a6, .int .u64 a7, .int .u64 a8, .int .u64 a9, .int .u64 a10, .int .u64 a11, .int .u64 a12, .int .u64 a13, .int .u64 a14, .int .u64 a15], .int .u8 kk, .slice A2 b.length c2] w fun e w' => e = .returned (.bool true) ∧ Below w.heap.size w w' := by
  by_cases h0 : b.length = 0
  · rw [h0]
    exact empty_calls a0 a1 a2 a3 a4 a5 a6 a7 a8 a9 a10 a11 a12 a13 a14 a15 kk A2 c2 w hk0 hk (ua a0 (by simp))
  · obtain ⟨j, hj, hN⟩ := shift_five kk
    have hp : (2 : Nat) ^ j ≤ 2 ^ 4 := Nat.pow_le_pow_right (by decide) hj
    have hp0 : 0 < (2 : Nat) ^ j := Nat.pow_pos (by decide)
    have hr' := Kd.reads_of_C (d := (0 : Int)) hr
    obtain ⟨p2, rfl, hcell⟩ := hr'.2.2 (by omega)
    have hb0 : w.cell? p2 = some (.int .u64 (rd b 0)) := by
      have h := hcell 0 (by omega)
      rwa [show p2.add 0 = p2 from by unfold Addr.add; rw [if_pos rfl]] at h
    have ht : (List.take (2 ^ j) [a0, a1, a2, a3, a4, a5, a6, a7, a8, a9, a10, a11, a12, a13, a14, a15]).length = 2 ^ j := by rw [List.length_take]; exact Nat.min_eq_left (Nat.le_trans hp (Nat.le_refl 16))
    have hut : U64s (List.take (2 ^ j) [a0, a1, a2, a3, a4, a5, a6, a7, a8, a9, a10, a11, a12, a13, a14, a15]) := fun x hx => ua x (List.mem_of_mem_take hx)
    by_cases hcut : b.length ≤ 2 ^ j
    · obtain ⟨k, r1, r2, r3, r4, r5, r6, h1, h2, h3, h4, h5, h6, h7, e1, e2⟩ := answers ht hj (by omega) hcut hut ub
      exact full_calls a0 a1 a2 a3 a4 a5 a6 a7 a8 a9 a10 a11 a12 a13 a14 a15 kk (2 ^ j) p2 c2 b.length (rd b 0) b w hk0 hk hN (by omega) hp (by omega) (by omega) hc hr hb0 k r1 r2 r3 r4 r5 r6 h1 h2 h3 h4 h5 h6 h7 e1 e2
    · have htb : (b.take (2 ^ j)).length = 2 ^ j := by rw [List.length_take]; omega
      have hrt : Kd.C (Kd.int .u64) w (some p2) (2 ^ j) (b.take (2 ^ j)) := by have h := Kd.C_take (m := 2 ^ j) hr (by omega); rwa [htb] at h
      have hrd : rd b 0 = rd (b.take (2 ^ j)) 0 := by
        unfold rd
        rw [List.getD_eq_getElem?_getD, List.getD_eq_getElem?_getD, List.getElem?_take, if_pos (by simpa using hp0)]
      rw [hrd] at hb0
      obtain ⟨k, r1, r2, r3, r4, r5, r6, h1, h2, h3, h4, h5, h6, h7, e1, e2⟩ := answers ht hj (by omega) (Nat.le_of_eq htb) hut (fun x hx => ub x (List.mem_of_mem_take hx))
      exact clip_calls a0 a1 a2 a3 a4 a5 a6 a7 a8 a9 a10 a11 a12 a13 a14 a15 kk (2 ^ j) p2 c2 b.length (rd (b.take (2 ^ j)) 0) (b.take (2 ^ j)) w hk0 hk hN (by omega) hp (by omega) hc hrt hb0 k r1 r2 r3 r4 r5 r6 h1 h2 h3 h4 h5 h6 h7 e1 e2
end Go.Proofs.Ytmjedihfibdhfaa.TreeLaw
