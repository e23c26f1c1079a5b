/- What the statements' own fleet answers: the packets of a journal in two sizes, as places in it. -/
import Derived.Test.YtglpnbcockancaaQx18
import Derived.Test.YtglpnbcockancaaInb
namespace Go.Proofs.Ytglpnbcockancaa.Upl
open Go.RowKit Go.Proofs.Ytglpnbcockancaa.Q Go.Proofs.Ytglpnbcockancaa.Dig Go.Proofs.Ytglpnbcockancaa.Canon Go.Proofs.YtglpnbcockancaaW.PrintWords Go.Proofs.YtglpnbcockancaaW.PrintLast Go.Proofs.YtglpnbcockancaaW.PrintMore

/-- the places of n bytes, m at a time, from a on -/
def cuts (n m : Nat) : Nat → Nat → List P
  | 0, _ => []
  | d + 1, a => if a < n then (a, min m (n - a)) :: cuts n m d (a + m) else []
theorem parts_cuts (b : List Int) (m : Nat) : ∀ d a, parts 5 b m d a = (cuts b.length m d a).map (pk b) := by
  intro d
  induction d with
  | zero => intro a; rfl
  | succ d ih =>
    intro a
    unfold parts cuts
    by_cases h : a < b.length
    · have e : piece b m a = cut b (a, min m (b.length - a)) := by
        unfold piece cut
        rw [List.drop_take, show min (a + m) b.length - a = min m (b.length - a) by omega]
      rw [if_pos h, if_pos h, List.map_cons, ih (a + m), e]
      rfl
    · rw [if_neg h, if_neg h, List.map_nil]
theorem cuts_good (n m : Nat) (hm : 1 ≤ m) : ∀ d a, ∀ p ∈ cuts n m d a, 1 ≤ p.2 ∧ p.1 + p.2 ≤ n := by
  intro d
  induction d with
  | zero => intro a p hp; simp [cuts] at hp
  | succ d ih =>
    intro a p hp
    unfold cuts at hp
    by_cases h : a < n
    · rw [if_pos h, List.mem_cons] at hp
      rcases hp with rfl | hp
      · exact ⟨by show 1 ≤ min m (n - a); omega, by show a + min m (n - a) ≤ n; omega⟩
      · exact ih _ p hp
    · rw [if_neg h] at hp; simp at hp
theorem cuts_cover (n m : Nat) (hm : 1 ≤ m) : ∀ d a, n ≤ a + d → ∀ i, a ≤ i → i < n → ∃ p ∈ cuts n m d a, p.1 ≤ i ∧ i < p.1 + p.2 := by
  intro d
  induction d with
  | zero => intro a h i h1 h2; omega
  | succ d ih =>
    intro a h i h1 h2
    unfold cuts
    rw [if_pos (by omega)]
    by_cases c : i < a + m
    · exact ⟨_, List.mem_cons_self, h1, by show i < a + min m (n - a); omega⟩
    · obtain ⟨p, hp, h3⟩ := ih (a + m) (by omega) i (by omega) h2
      exact ⟨p, List.mem_cons_of_mem _ hp, h3⟩
theorem cuts_length (n m : Nat) : ∀ d a, (cuts n m d a).length ≤ d := by
  intro d
  induction d with
  | zero => intro a; simp [cuts]
  | succ d ih =>
    intro a
    unfold cuts
    split
    · rw [List.length_cons]; have := ih (a + m); omega
    · simp
theorem cuts_end (n m : Nat) : ∀ d a, n ≤ a → cuts n m d a = [] := by
  intro d a h
  cases d with
  | zero => rfl
  | succ d => unfold cuts; rw [if_neg (by omega)]
theorem dv_is {b : List Int} (hb : b.length ≤ 80) {a : Nat} (ha : a ≤ b.length) {m : Nat} (hm : 1 ≤ m ∧ m ≤ 20) : dv 5 b a (m : Int) = ((cuts b.length m b.length a).map (pk b), 0) := by
  unfold dv
  have e : wrap64 ((wrap64 ((wrap64 ((b.length : Int) - a)) + m)) - 1) = ((b.length - a + m - 1 : Nat) : Int) := by
    rw [show wrap64 ((b.length : Int) - a) = ((b.length - a : Nat) : Int) by rw [w64 (by omega) (by omega)]; omega,
      show wrap64 (((b.length - a : Nat) : Int) + m) = ((b.length - a + m : Nat) : Int) by rw [w64 (by omega) (by omega)]; omega, w64 (by omega) (by omega)]
    omega
  have q : Int.tdiv ((b.length - a + m - 1 : Nat) : Int) (m : Int) = (((b.length - a + m - 1) / m : Nat) : Int) := rfl
  have le := Nat.div_le_self (b.length - a + m - 1) m
  rw [e, q]
  generalize (b.length - a + m - 1) / m = z at le
  rw [w64 (by omega) (by omega), if_pos (by omega), Int.toNat_natCast, parts_cuts]

theorem size_is {x : Int} (h : 0 ≤ x ∧ x < 256) (n : Nat) (_hn : 0 < n) : wrap64 ((wrap64 (Int.tmod x (n : Int))) + 1) = ((x.toNat % n + 1 : Nat) : Int) := by
  obtain ⟨c, rfl⟩ : ∃ c : Nat, x = c := ⟨x.toNat, by omega⟩
  have e : Int.tmod (c : Int) (n : Int) = ((c % n : Nat) : Int) := rfl
  have le := Nat.mod_le c n
  rw [e, Int.toNat_natCast]
  generalize c % n = z at le
  rw [show wrap64 (z : Int) = (z : Int) from w64 (by omega) (by omega), w64 (by omega) (by omega)]
  omega
theorem pick_is {x : Int} (h : 0 ≤ x ∧ x < 256) (n : Nat) : Int.tmod (wrap64 x) (n : Int) = ((x.toNat % n : Nat) : Int) := by
  obtain ⟨c, rfl⟩ : ∃ c : Nat, x = c := ⟨x.toNat, by omega⟩
  rw [w64 (by omega) (by omega), Int.toNat_natCast]
  rfl
/-- the bytes of the journal that count, and the places of its packets -/
def jr (l : List Int) : List Int := l.take (min l.length 80)
def fl (l : List Int) (x y : Int) : List P := cuts (jr l).length (x.toNat % 16 + 1) (jr l).length 0 ++ cuts (jr l).length (y.toNat % 16 + 1) (jr l).length 0
theorem jr_length (l : List Int) : (jr l).length ≤ 80 := by unfold jr; rw [List.length_take]; omega
theorem fl_good (l : List Int) (x y : Int) : ∀ p ∈ fl l x y, good (jr l) p := by
  intro p hp
  unfold fl at hp
  rcases List.mem_append.1 hp with hp | hp
  · exact cuts_good _ _ (by omega) _ _ p hp
  · exact cuts_good _ _ (by omega) _ _ p hp
theorem fleet_is {k : Nat} (l : List Int) {x y : Int} (hx : 0 ≤ x ∧ x < 256) (hy : 0 ≤ y ∧ y < 256) (hk : 1060000 ≤ k) : examboardlaw53_fleet.f k l x y = some ((fl l x y).map (pk (jr l)), jr l, true) := by
  have em : mn (l.length : Int) 80 = ((min l.length 80 : Nat) : Int) := mn_nat _ 80
  have h16 := size_is hx 16 (by decide)
  have h16' := size_is hy 16 (by decide)
  have lb := jr_length l
  have s1 : upload_Split.f k 5 (jr l) ((x.toNat % 16 + 1 : Nat) : Int) = some ((cuts (jr l).length (x.toNat % 16 + 1) (jr l).length 0).map (pk (jr l)), 0) := by
    rw [Split_is 5 (jr l) _ hk]
    have := dv_is lb (a := 0) (by omega) (m := x.toNat % 16 + 1) (by omega)
    exact congrArg some this
  have s2 : upload_Split.f k 5 (jr l) ((y.toNat % 16 + 1 : Nat) : Int) = some ((cuts (jr l).length (y.toNat % 16 + 1) (jr l).length 0).map (pk (jr l)), 0) := by
    rw [Split_is 5 (jr l) _ hk]
    have := dv_is lb (a := 0) (by omega) (m := y.toNat % 16 + 1) (by omega)
    exact congrArg some this
  have c1 := cuts_length (jr l).length (x.toNat % 16 + 1) (jr l).length 0
  have c2 := cuts_length (jr l).length (y.toNat % 16 + 1) (jr l).length 0
  unfold examboardlaw53_fleet.f
  rw [em, if_pos (by omega), if_pos (by omega), Int.toNat_natCast, Option.bind_some, show l.take (min l.length 80) = jr l from rfl, show (16 : Int) = ((16 : Nat) : Int) from rfl, h16, h16', s1, Option.bind_some, s2, Option.bind_some,
    if_pos rfl, if_pos rfl, Option.bind_some, if_pos (by rw [List.length_nil, List.length_map]; omega), Option.bind_some, if_pos (by rw [List.nil_append, List.length_map, List.length_map]; omega), List.nil_append]
  unfold fl
  rw [List.map_append]
end Go.Proofs.Ytglpnbcockancaa.Upl
