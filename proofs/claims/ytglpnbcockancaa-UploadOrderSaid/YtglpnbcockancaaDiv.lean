/- What divide answers: the parts of a journal, and what a new inbox is. -/
import Derived.Test.YtglpnbcockancaaQx2
import Derived.Test.YtglpnbcockancaaUpl
namespace Go.Proofs.Ytglpnbcockancaa.Upl
open Go.RowKit Go.Proofs.Ytglpnbcockancaa.Q Go.Proofs.Ytglpnbcockancaa.Dig Go.Proofs.YtglpnbcockancaaW.PrintWords Go.Proofs.YtglpnbcockancaaW.PrintLast Go.Proofs.YtglpnbcockancaaW.PrintMore

/-- the bytes of a journal from a position on, at most m -/
def piece (l : List Int) (m a : Nat) : List Int := (l.take (min (a + m) l.length)).drop a
/-- the packets of a journal from a position on, m bytes each; d: how many at most -/
def parts (s : Int) (l : List Int) (m : Nat) : Nat → Nat → List S25
  | 0, _ => []
  | d + 1, a => if a < l.length then ⟨s, a, piece l m a, sumP s a (piece l m a)⟩ :: parts s l m d (a + m) else []

theorem piece_length (l : List Int) (m a : Nat) : (piece l m a).length = min (a + m) l.length - a := by
  unfold piece; rw [List.length_drop, List.length_take]; omega
theorem parts_length (s : Int) (l : List Int) (m : Nat) : ∀ (d a : Nat), (parts s l m d a).length ≤ d := by
  intro d
  induction d with
  | zero => intro a; simp [parts]
  | succ d ih =>
    intro a
    unfold parts
    by_cases h : a < l.length
    · rw [if_pos h, List.length_cons]; have := ih (a + m); omega
    · rw [if_neg h]; simp
theorem parts_all (s : Int) (l : List Int) (m : Nat) : ∀ (d a : Nat), ∀ p ∈ parts s l m d a, ∃ a' : Nat, a' < l.length ∧ p = ⟨s, a', piece l m a', sumP s a' (piece l m a')⟩ := by
  intro d
  induction d with
  | zero => intro a p hp; simp [parts] at hp
  | succ d ih =>
    intro a p hp
    unfold parts at hp
    by_cases h : a < l.length
    · rw [if_pos h, List.mem_cons] at hp
      rcases hp with rfl | hp
      · exact ⟨a, h, rfl⟩
      · exact ih _ p hp
    · rw [if_neg h] at hp; simp at hp

theorem mn_nat (a b : Nat) : mn (a : Int) (b : Int) = ((min a b : Nat) : Int) := by unfold mn; split <;> omega
theorem piece_ok {s : Int} {l : List Int} {m a : Nat} (hs : 1 ≤ s ∧ s ≤ 9999999) (hl : l.length ≤ 1048576) (hm : 1 ≤ m ∧ m ≤ 2000) (ha : a < l.length) : okP s a (piece l m a).length = true := by
  rw [okP_iff, piece_length]; omega

theorem divide_l0 {s : Int} {l : List Int} {m : Nat} (hs : 1 ≤ s ∧ s ≤ 9999999) (hl : l.length ≤ 1048576) (hm : 1 ≤ m ∧ m ≤ 2000) : ∀ (d k a : Nat) (acc : List S25), l.length ≤ a + d → a ≤ 1050576 → acc.length + d < 2932031007402 → d + 2010 ≤ k →
    upload_divide.l0 k s l (m : Int) acc (a : Int) = some (acc ++ parts s l m d a, 0) := by
  intro d
  induction d with
  | zero =>
    intro k a acc h1 h2 h3 hk
    obtain ⟨k, rfl⟩ : ∃ q, k = q + 1 := ⟨k - 1, by omega⟩
    simp only [upload_divide.l0, parts, List.append_nil]
    rw [if_neg (by omega)]
  | succ d ih =>
    intro k a acc h1 h2 h3 hk
    obtain ⟨k, rfl⟩ : ∃ q, k = q + 1 := ⟨k - 1, by omega⟩
    simp only [upload_divide.l0, parts]
    by_cases h : a < l.length
    · have e : wrap64 ((a : Int) + (m : Int)) = ((a + m : Nat) : Int) := by rw [w64 (by omega) (by omega)]; omega
      rw [if_pos (by omega), if_pos (by omega), e, mn_nat, if_pos (by omega), if_pos (by omega), Int.toNat_natCast, Int.toNat_natCast, if_pos h]
      have hp : okP s a (piece l m a).length = true := piece_ok hs hl hm h
      rw [show List.drop a (List.take (min (a + m) l.length) l) = piece l m a from rfl, bound (Packet_is (k := k) s a (piece l m a) (by rw [piece_length]; omega) (by omega))]
      unfold pack
      rw [if_pos hp, if_pos rfl, if_pos (by omega), ih k (a + m) _ (by omega) (by omega) (by rw [List.length_append, List.length_singleton]; omega) (by omega), List.append_assoc, List.singleton_append]
    · rw [if_neg (by omega), if_neg h, List.append_nil]
/-- what divide answers -/
def dv (s : Int) (l : List Int) (a : Nat) (m : Int) : List S25 × Int :=
  if 1 ≤ s ∧ s ≤ 9999999 ∧ 1 ≤ m ∧ m ≤ 2000 ∧ (l.length : Int) ≤ 1048576 ∧ ¬ wrap64 (Int.tdiv (wrap64 ((wrap64 ((wrap64 ((l.length : Int) - a)) + m)) - 1)) m) > 1024 then (parts s l m.toNat l.length a, 0) else ([], 3)
theorem j0_is {s : Int} {l : List Int} {a : Nat} {m : Int} (ha : (l.length : Int) ≤ 1048576 → a ≤ 1048576) {k : Nat} (hk : 1060000 ≤ k) (b : Bool) (hb : b = false → 1 ≤ s ∧ s ≤ 9999999 ∧ 1 ≤ m ∧ m ≤ 2000 ∧ (l.length : Int) ≤ 1048576) :
    upload_divide.j0 k s l a m b = some (if b = true then ([], 3) else (parts s l m.toNat l.length a, 0)) := by
  obtain ⟨k, rfl⟩ : ∃ q, k = q + 1 := ⟨k - 1, by omega⟩
  simp only [upload_divide.j0]
  cases b with
  | true => rw [if_pos rfl, if_pos rfl]
  | false =>
    obtain ⟨h1, h2, h3, h4, h5⟩ := hb rfl
    have ha := ha h5
    obtain ⟨m, rfl⟩ : ∃ q : Nat, m = q := ⟨m.toNat, by omega⟩
    rw [if_neg (by decide), if_neg (by decide), divide_l0 ⟨h1, h2⟩ (by omega) (by omega) l.length k a [] (by omega) (by omega) (by simp; omega) (by omega), List.nil_append, Int.toNat_natCast]
theorem divide_is {k : Nat} (s : Int) (l : List Int) (a : Nat) (m : Int) (ha : (l.length : Int) ≤ 1048576 → a ≤ 1048576) (hk : 1060000 ≤ k) : upload_divide.f k s l a m = some (dv s l a m) := by
  have T := fun b hb => j0_is (s := s) (l := l) (m := m) ha hk b hb
  have t := T true (fun h => Bool.noConfusion h)
  unfold upload_divide.f upload_number.f dv
  by_cases h1 : s ≥ 1
  · rw [if_pos h1, Option.bind_some]
    by_cases h2 : s ≤ 9999999
    · rw [if_pos (decide_eq_true h2)]
      by_cases h3 : m < 1
      · rw [if_pos h3, t, if_pos rfl, if_neg (by omega)]
      · rw [if_neg h3]
        by_cases h4 : m > 2000
        · rw [if_pos h4, t, if_pos rfl, if_neg (by omega)]
        · rw [if_neg h4]
          by_cases h5 : (l.length : Int) > 1048576
          · rw [if_pos h5, t, if_pos rfl, if_neg (by omega)]
          · rw [if_neg h5, if_neg (by omega), T _ (fun _ => ⟨h1, h2, by omega, by omega, by omega⟩)]
            congr 1
            by_cases h6 : wrap64 (Int.tdiv (wrap64 ((wrap64 ((wrap64 ((l.length : Int) - a)) + m)) - 1)) m) > 1024
            · rw [if_pos (decide_eq_true h6), if_neg (fun h => h.2.2.2.2.2 h6)]
            · rw [if_neg (by rw [decide_eq_false h6]; decide), if_pos ⟨h1, h2, by omega, by omega, by omega, h6⟩]
    · rw [if_neg (by simp [h2]), t, if_pos rfl, if_neg (by omega)]
  · rw [if_neg h1, Option.bind_some, if_neg (by decide), t, if_pos rfl, if_neg (by omega)]
theorem Split_is {k : Nat} (s : Int) (l : List Int) (m : Int) (hk : 1060000 ≤ k) : upload_Split.f k s l m = some (dv s l 0 m) := by
  unfold upload_Split.f
  have e := divide_is s l 0 m (fun _ => by omega) hk
  rw [Int.ofNat_zero] at e
  rw [bound e]
/-- a new inbox -/
def nw (s : Int) : Int × List Int × List S25 × Int := if 1 ≤ s ∧ s ≤ 9999999 then (s, [], [], 0) else (0, [], [], 3)
theorem New_is (s : Int) : upload_New.f s = some (nw s) := by
  unfold upload_New.f upload_number.f nw
  by_cases h1 : s ≥ 1
  · rw [if_pos h1, Option.bind_some]
    by_cases h2 : s ≤ 9999999
    · rw [if_pos (decide_eq_true h2), if_pos ⟨h1, h2⟩]
    · rw [if_neg (by simp [h2]), if_neg (by omega)]
  · rw [if_neg h1, Option.bind_some, if_neg (by decide), if_neg (by omega)]
theorem rd25 (l : List S25) (i : Nat) (h : i < l.length) : rd_T25 l (i : Int) = l[i] := by unfold rd_T25; simp [h]
end Go.Proofs.Ytglpnbcockancaa.Upl
