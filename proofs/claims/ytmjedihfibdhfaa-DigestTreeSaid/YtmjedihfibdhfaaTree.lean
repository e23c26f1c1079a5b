/- The digest's tree in plain Lean: 'root'; that digest.Root and the reference's Root compute it; that a full tree of a power of two followed by at most as many is joined at the top. -/
import Derived.Test.YtmjedihfibdhfaaAwk
namespace Go.Proofs.Ytmjedihfibdhfaa.Dig
open Go.RowKit Go.Proofs.Ytmjedihfibdhfaa.Q Go.Proofs.YtmjedihfibdhfaaW.PrintWords Go.Proofs.YtmjedihfibdhfaaW.PrintLast Go.Proofs.YtmjedihfibdhfaaW.PrintMore

def J (x y : Int) : Int := iv (addB (addB start (be8 x)) (be8 y))
def pairUp : List Int → List Int
  | x :: y :: r => J x y :: pairUp r
  | [x] => [x]
  | [] => []
def rootOf : Nat → List Int → Int
  | 0, _ => 0
  | n + 1, l => if 1 < l.length then rootOf n (pairUp l) else rd l 0
def root (l : List Int) : Int := rootOf l.length l
def U64s (l : List Int) : Prop := ∀ x ∈ l, U64 x

theorem pairUp_len : ∀ (n : Nat) (l : List Int), l.length ≤ n → (pairUp l).length = (l.length + 1) / 2
  | _, [], _ => by simp [pairUp]
  | _, [_], _ => by simp [pairUp]
  | 0, _ :: _ :: _, h => by simp at h
  | n + 1, x :: y :: r, h => by
    simp only [pairUp, List.length_cons] at h ⊢
    rw [pairUp_len n r (by omega)]
    omega
theorem pairUp_length (l : List Int) : (pairUp l).length = (l.length + 1) / 2 := pairUp_len _ l (Nat.le_refl _)
theorem pairUp_u64' : ∀ (n : Nat) (l : List Int), l.length ≤ n → U64s l → U64s (pairUp l)
  | _, [], _, h => by simpa [pairUp] using h
  | _, [_], _, h => by simpa [pairUp] using h
  | 0, _ :: _ :: _, h, _ => by simp at h
  | n + 1, x :: y :: r, h, hu => by
    intro z hz
    simp only [pairUp, List.mem_cons] at hz
    rcases hz with rfl | hz
    · exact iv_u64 _
    · exact pairUp_u64' n r (by simp at h; omega) (fun w hw => hu w (List.mem_cons_of_mem _ (List.mem_cons_of_mem _ hw))) z hz
theorem pairUp_u64 {l : List Int} (h : U64s l) : U64s (pairUp l) := pairUp_u64' _ l (Nat.le_refl _) h
theorem pairUp_app : ∀ (n : Nat) (a b : List Int), a.length = 2 * n → pairUp (a ++ b) = pairUp a ++ pairUp b
  | 0, [], b, _ => by simp [pairUp]
  | 0, _ :: _, _, h => by simp at h
  | n + 1, [], _, h => by simp at h
  | n + 1, [_], _, h => by simp at h; omega
  | n + 1, x :: y :: r, b, h => by
    simp only [List.cons_append, pairUp]
    rw [pairUp_app n r b (by simp at h; omega)]
theorem rootOf_more : ∀ (n : Nat) (l : List Int), 0 < l.length → l.length ≤ n → rootOf n l = root l := by
  intro n
  induction n using Nat.strongRecOn with
  | _ n ih =>
    intro l h0 hn
    obtain ⟨n, rfl⟩ : ∃ m, n = m + 1 := ⟨n - 1, by omega⟩
    unfold root
    obtain ⟨m, hm⟩ : ∃ m, l.length = m + 1 := ⟨l.length - 1, by omega⟩
    rw [hm]
    simp only [rootOf]
    by_cases h1 : 1 < l.length
    · rw [if_pos h1, if_pos h1]
      have hp := pairUp_length l
      rw [ih n (by omega) (pairUp l) (by omega) (by omega)]
      by_cases hmn : m = n
      · subst hmn
        rw [ih m (by omega) (pairUp l) (by omega) (by omega)]
      · rw [ih m (by omega) (pairUp l) (by omega) (by omega)]
    · rw [if_neg h1, if_neg h1]
theorem root_one {l : List Int} (h : l.length = 1) : root l = rd l 0 := by
  unfold root; rw [h]; simp only [rootOf]; rw [if_neg (by omega)]
theorem root_more {l : List Int} (h : 1 < l.length) : root l = root (pairUp l) := by
  have hp := pairUp_length l
  rw [← rootOf_more l.length (pairUp l) (by omega) (by omega)]
  rw [← rootOf_more (l.length + 1) l (by omega) (by omega)]
  simp only [rootOf]
  rw [if_pos h]
theorem root_pair {l : List Int} (h : 0 < l.length) : root (pairUp l) = root l := by
  by_cases h1 : 1 < l.length
  · exact (root_more h1).symm
  · match l, h, h1 with
    | [x], _, _ => simp [pairUp]
    | _ :: _ :: _, _, h1 => simp at h1
/-- P11.8 -/
theorem root_join : ∀ (k : Nat) (a b : List Int), a.length = 2 ^ k → 0 < b.length → b.length ≤ 2 ^ k → root (a ++ b) = J (root a) (root b)
  | 0, a, b, ha, h0, hb => by
    match a, b, ha, h0, hb with
    | [x], [y], _, _, _ => simp [root, rootOf, pairUp, rd]
    | [], _, ha, _, _ => simp at ha
    | _ :: _ :: _, _, ha, _, _ => simp at ha
    | [_], [], _, h0, _ => simp at h0
    | [_], _ :: _ :: _, _, _, hb => simp at hb
  | k + 1, a, b, ha, h0, hb => by
    have e : (2 : Nat) ^ (k + 1) = 2 * 2 ^ k := by rw [Nat.pow_succ]; omega
    have hp : 0 < (2 : Nat) ^ k := Nat.pow_pos (by decide)
    have la := pairUp_length a
    have lb := pairUp_length b
    rw [root_more (by rw [List.length_append]; omega), pairUp_app (2 ^ k) a b (by omega), root_join k (pairUp a) (pairUp b) (by omega) (by omega) (by omega), root_pair (by omega), root_pair h0]

theorem rd_u64 {l : List Int} (h : U64s l) (i : Nat) (hi : i < l.length) : U64 (rd l (i : Int)) := by
  rw [rd_at l i hi]; exact h _ (List.getElem_mem hi)
theorem join_is {k : Nat} {x y : Int} (hx : U64 x) (hy : U64 y) (hk : 9 ≤ k) :
    ((digest_Number.f k 14695981039346656037 x).bind fun t => digest_Number.f k t y) = some (J x y) := by
  rw [Number_is start_u64 hx hk, Option.bind_some, Number_is (iv_u64 _) hy hk, bv_iv, bv_start]; rfl
theorem ref_join_is {k : Nat} {x y : Int} (hk : 9 ≤ k) :
    ((examboardref11_Number.f k 14695981039346656037 x).bind fun t => examboardref11_Number.f k t y) = some (J x y) := by
  rw [ref_Number_is start_u64 hk, Option.bind_some, ref_Number_is (iv_u64 _) hk, bv_iv, bv_start]; rfl

/-- digest.Root's inner loop makes the next level. -/
theorem Root_l1 (l : List Int) (hu : U64s l) (hl : l.length < 17592186044416) : ∀ (d k i : Nat) (acc : List Int), l.length ≤ i + 2 * d → l.length + 2 > i → acc.length + (l.length - i) ≤ l.length → 9 ≤ k →
    digest_Root.l1 (k + d + 1) l acc (i : Int) = digest_Root.l0 (k + d - (l.length - i + 1) / 2) (acc ++ pairUp (l.drop i)) := by
  intro d
  induction d with
  | zero =>
    intro k i acc h1 h2 h3 hk
    simp only [digest_Root.l1]
    rw [if_neg (by omega), List.drop_of_length_le (by omega), show (l.length - i + 1) / 2 = 0 from by omega]
    simp [pairUp]
  | succ d ih =>
    intro k i acc h1 h2 h3 hk
    have ih' := fun (i : Nat) (acc : List Int) => ih k i acc
    obtain ⟨m, hm⟩ : ∃ m, m = k + d + 1 := ⟨_, rfl⟩
    rw [show k + (d + 1) = k + d + 1 from rfl, ← hm]
    rw [← hm] at ih'
    simp only [digest_Root.l1]
    by_cases hi : i < l.length
    · rw [if_pos (by omega), w64 (by omega) (by omega)]
      by_cases hi1 : i + 1 < l.length
      · rw [if_pos (by omega), if_pos (by omega)]
        have e1 : ((i : Int) + 1) = ((i + 1 : Nat) : Int) := by omega
        have e2 : ((i : Int) + 2) = ((i + 2 : Nat) : Int) := by omega
        rw [e1]
        have hj := join_is (k := m) (rd_u64 hu i hi) (rd_u64 hu (i + 1) hi1) (by omega)
        rw [Number_is start_u64 (rd_u64 hu i hi) (by omega), Option.bind_some] at hj ⊢
        rw [if_pos (by omega), hj, Option.bind_some, if_pos (by omega), w64 (by omega) (by omega), e2]
        rw [ih' (i + 2) (acc ++ [J (rd l (i : Int)) (rd l ((i + 1 : Nat) : Int))]) (by omega) (by omega) (by rw [List.length_append]; simp; omega) hk]
        rw [drop_at l i hi, drop_at l (i + 1) hi1]
        rw [show (k + d - (l.length - (i + 2) + 1) / 2) = (m - (l.length - i + 1) / 2) from by omega]
        simp [pairUp]
      · rw [if_neg (by omega), if_pos (by omega), if_pos (by omega), w64 (by omega) (by omega)]
        have e2 : ((i : Int) + 2) = ((i + 2 : Nat) : Int) := by omega
        rw [e2, ih' (i + 2) (acc ++ [rd l (i : Int)]) (by omega) (by omega) (by rw [List.length_append]; simp; omega) hk]
        rw [drop_at l i hi, List.drop_of_length_le (show l.length ≤ i + 1 from by omega), List.drop_of_length_le (show l.length ≤ i + 2 from by omega)]
        rw [show (k + d - (l.length - (i + 2) + 1) / 2) = (m - (l.length - i + 1) / 2) from by omega]
        simp [pairUp]
    · rw [if_neg (by omega), List.drop_of_length_le (by omega), show (l.length - i + 1) / 2 = 0 from by omega]
      simp [pairUp]
theorem Root_l0 : ∀ (n : Nat) (l : List Int), l.length ≤ n → 0 < l.length → U64s l → l.length < 17592186044416 → ∃ K, ∀ k, K ≤ k → digest_Root.l0 k l = some (root l) := by
  intro n
  induction n using Nat.strongRecOn with
  | _ n ih =>
    intro l hn h0 hu hl
    by_cases h1 : 1 < l.length
    · have hp := pairUp_length l
      obtain ⟨K, hK⟩ := ih (pairUp l).length (by omega) (pairUp l) (Nat.le_refl _) (by omega) (pairUp_u64 hu) (by omega)
      refine ⟨K + l.length + 12, fun k hk => ?_⟩
      obtain ⟨k, rfl⟩ : ∃ m, k = m + l.length + 2 := ⟨k - l.length - 2, by omega⟩
      simp only [digest_Root.l0]
      rw [if_pos (by omega)]
      have h := Root_l1 l hu hl l.length k 0 [] (by omega) (by omega) (by simp) (by omega)
      simp only [Int.cast_ofNat_Int, List.drop_zero, List.nil_append] at h
      rw [h, hK _ (by omega), root_more h1]
    · refine ⟨1, fun k hk => ?_⟩
      obtain ⟨k, rfl⟩ : ∃ m, k = m + 1 := ⟨k - 1, by omega⟩
      simp only [digest_Root.l0]
      rw [if_neg (by omega), if_pos (by omega), root_one (by omega)]
theorem Root_is {l : List Int} (hu : U64s l) (hl : l.length < 17592186044416) : ∃ K, ∀ k, K ≤ k → digest_Root.f k l = some (if l.length = 0 then iv start else root l) := by
  by_cases h0 : l.length = 0
  · refine ⟨1, fun k hk => ?_⟩
    unfold digest_Root.f digest_Of.f
    rw [if_pos (by omega), if_pos h0, Add_is start_u64 (by simp) (by simp; omega), bv_start]
    rfl
  · obtain ⟨K, hK⟩ := Root_l0 _ l (Nat.le_refl _) (by omega) hu hl
    refine ⟨K, fun k hk => ?_⟩
    unfold digest_Root.f
    rw [if_neg (by omega), if_neg h0]
    simp only [Option.bind_some, List.length_nil, List.nil_append]
    rw [if_pos (by omega), hK k hk]

theorem level_l0 (l : List Int) (hl : l.length < 17592186044416) : ∀ (d k i : Nat) (acc : List Int), l.length ≤ 2 * i + 2 * d → 2 * i ≤ l.length → acc.length ≤ i → 9 ≤ k →
    examboardref11_level.l0 (k + d + 1) l acc ((2 * i : Nat) : Int) = some (acc ++ pairUp (l.drop (2 * i))) := by
  intro d
  induction d with
  | zero =>
    intro k i acc h1 h2 h3 hk
    simp only [examboardref11_level.l0]
    rw [w64 (by omega) (by omega), if_neg (by omega), if_neg (by omega), List.drop_of_length_le (by omega)]
    simp [pairUp]
  | succ d ih =>
    intro k i acc h1 h2 h3 hk
    have ih' := fun (i : Nat) (acc : List Int) => ih k i acc
    obtain ⟨m, hm⟩ : ∃ m, m = k + d + 1 := ⟨_, rfl⟩
    rw [show k + (d + 1) = k + d + 1 from rfl, ← hm]
    rw [← hm] at ih'
    simp only [examboardref11_level.l0]
    rw [w64 (by omega) (by omega)]
    by_cases hi : 2 * i + 1 < l.length
    · have e1 : (((2 * i : Nat) : Int) + 1) = ((2 * i + 1 : Nat) : Int) := by omega
      have e2 : (((2 * i : Nat) : Int) + 2) = ((2 * (i + 1) : Nat) : Int) := by omega
      rw [e1, if_pos (by omega), if_pos (by omega), if_pos (by omega)]
      have hj := ref_join_is (k := m) (x := rd l ((2 * i : Nat) : Int)) (y := rd l ((2 * i + 1 : Nat) : Int)) (by omega)
      rw [ref_Number_is start_u64 (by omega), Option.bind_some] at hj ⊢
      rw [if_pos (by omega), hj, Option.bind_some, if_pos (by omega), w64 (by omega) (by omega), e2, ih' (i + 1) _ (by omega) (by omega) (by simp; omega) hk, drop_at l (2 * i) (by omega), drop_at l (2 * i + 1) (by omega), show 2 * i + 1 + 1 = 2 * (i + 1) from by omega]
      simp [pairUp]
    · rw [if_neg (by omega)]
      by_cases ho : 2 * i < l.length
      · have e3 : ((l.length : Int) - 1) = ((2 * i : Nat) : Int) := by omega
        rw [if_pos (by omega), w64 (by omega) (by omega), e3, if_pos (by omega), if_pos (by omega), if_pos (by omega), drop_at l (2 * i) ho, List.drop_of_length_le (show l.length ≤ 2 * i + 1 from by omega)]
        simp [pairUp]
      · rw [if_neg (by omega), List.drop_of_length_le (by omega)]
        simp [pairUp]
theorem level_is {l : List Int} (hl : l.length < 17592186044416) {k : Nat} (hk : l.length + 10 ≤ k) : examboardref11_level.f k l = some (pairUp l) := by
  obtain ⟨k, rfl⟩ : ∃ m, k = m + l.length + 1 := ⟨k - l.length - 1, by omega⟩
  have h := level_l0 l hl l.length k 0 [] (by omega) (by omega) (by simp) (by omega)
  unfold examboardref11_level.f
  simpa using h
theorem ref_Root_l0 : ∀ (n : Nat) (l : List Int), l.length ≤ n → 0 < l.length → l.length < 17592186044416 → ∃ K, ∀ k, K ≤ k → examboardref11_Root.l0 k l = some (root l) := by
  intro n
  induction n using Nat.strongRecOn with
  | _ n ih =>
    intro l hn h0 hl
    by_cases h1 : 1 < l.length
    · have hp := pairUp_length l
      obtain ⟨K, hK⟩ := ih (pairUp l).length (by omega) (pairUp l) (Nat.le_refl _) (by omega) (by omega)
      refine ⟨K + l.length + 12, fun k hk => ?_⟩
      obtain ⟨k, rfl⟩ : ∃ m, k = m + 1 := ⟨k - 1, by omega⟩
      simp only [examboardref11_Root.l0]
      rw [if_pos (by omega), level_is hl (by omega), Option.bind_some, hK _ (by omega), root_more h1]
    · refine ⟨1, fun k hk => ?_⟩
      obtain ⟨k, rfl⟩ : ∃ m, k = m + 1 := ⟨k - 1, by omega⟩
      simp only [examboardref11_Root.l0]
      rw [if_neg (by omega), if_pos (by omega), root_one (by omega)]
theorem ref_Root_is {l : List Int} (hl : l.length < 17592186044416) : ∃ K, ∀ k, K ≤ k → examboardref11_Root.f k l = some (if l.length = 0 then iv start else root l) := by
  by_cases h0 : l.length = 0
  · refine ⟨1, fun k hk => ?_⟩
    unfold examboardref11_Root.f examboardref11_Of.f
    rw [if_pos (by omega), if_pos h0, ref_Add_is start_u64 (by simp) (by simp; omega), bv_start]
    rfl
  · obtain ⟨K, hK⟩ := ref_Root_l0 _ l (Nat.le_refl _) (by omega) hl
    refine ⟨K, fun k hk => ?_⟩
    unfold examboardref11_Root.f
    rw [if_neg (by omega), if_neg h0, hK k hk]
end Go.Proofs.Ytmjedihfibdhfaa.Dig
