/- Words of the kit's printer that this claim uses, cut to these by wip/trim.py. -/
import Derived.Test.YteeggfnailpcpaaDoorCodD
import Derived.Test.YteeggfnailpcpaaDoorQx12
namespace Go.Proofs.YteeggfnailpcpaaDoor.Cod
open Go.RowKit Go.Proofs.YteeggfnailpcpaaDoor.Q Go.Proofs.YteeggfnailpcpaaDoorW.PrintWords Go.Proofs.YteeggfnailpcpaaDoorW.PrintLast Go.Proofs.YteeggfnailpcpaaDoorW.PrintMore

theorem rdI_at (l : List Int) (i : Nat) (h : i < l.length) : rd l (i : Int) = l[i] := by unfold rd; simp [h]
theorem dropI_at (l : List Int) (i : Nat) (h : i < l.length) : l.drop i = l[i] :: l.drop (i + 1) := List.drop_eq_getElem_cons h
def SimW (B : List Int) (g : Int → Int) (r : Option (Int × Int × Int)) : Except Int (Int × List Int) → Prop
  | .error _ => ∃ v p c, r = some (v, p, c) ∧ c ≠ 0
  | .ok (y, s) => ∃ p : Nat, r = some (g y, (p : Int), 0) ∧ p ≤ B.length ∧ s = B.drop p
theorem mn_left {a b : Int} (h : a ≤ b) : mn a b = a := by unfold mn; omega
theorem need_is {B : List Int} (hB : B.length ≤ 1048576) {p : Nat} (hp : p ≤ B.length) {n : Int} (_h0 : 0 ≤ n) (_hn : n ≤ 4611686018427387904) :
    (n ≤ (B.length : Int) - (p : Int) → examboardref10_need.f B (p : Int) n = some 0) ∧ (¬ n ≤ (B.length : Int) - (p : Int) → examboardref10_need.f B (p : Int) n = some 4) := by
  unfold examboardref10_need.f
  rw [mn_left (by omega), w64 (by omega) (by omega)]
  exact ⟨fun h => if_pos h, fun h => by rw [if_neg h, if_neg (by omega)]⟩
theorem rround_is {x c : Int} {i : Nat} (hi : i ≤ 9) (hx0 : 0 ≤ x) (hx : x < 2 ^ (7 * i)) (hc0 : 0 ≤ c) (hc1 : c < 256) (h9 : i = 9 → c ≤ 1) :
    IntKind.u64.wrap (x + (shl .u64 (Int.tmod c 128) (IntKind.u64.wrap (wrap64 (7 * (i : Int)))))) = x + 2 ^ (7 * i) * (c % 128) := by
  have hp : (0 : Int) < 2 ^ (7 * i) := Int.pow_pos (by decide)
  have hup : x + (2 : Int) ^ (7 * i) * (c % 128) < 18446744073709551616 := by
    by_cases h : i = 9
    · have := h9 h
      subst h
      have e : (2 : Int) ^ (7 * 9) = 9223372036854775808 := by decide
      rw [e] at hx ⊢
      omega
    · have e : (2 : Int) ^ (7 * i) ≤ 2 ^ 56 := by
        have : (2 : Nat) ^ (7 * i) ≤ 2 ^ 56 := Nat.pow_le_pow_right (by decide) (by omega)
        exact_mod_cast this
      have e2 : (2 : Int) ^ (7 * i) * (c % 128) ≤ 2 ^ 56 * 127 := Int.mul_le_mul e (by omega) (by omega) (by decide)
      have e3 : (2 : Int) ^ 56 * 127 = 9151314442816847872 := by decide
      have e4 : (2 : Int) ^ 56 = 72057594037927936 := by decide
      omega
  have hnn : 0 ≤ (2 : Int) ^ (7 * i) * (c % 128) := Int.mul_nonneg (by omega) (by omega)
  have es : shl .u64 (c % 128) (7 * (i : Int)) = 2 ^ (7 * i) * (c % 128) := by
    unfold shl
    rw [show min (7 * (i : Int)).toNat IntKind.u64.bits = 7 * i from by simp [IntKind.bits]; omega, wU (by rw [Int.mul_comm]; exact hnn) (by rw [Int.mul_comm]; omega), Int.mul_comm]
  rw [Int.tmod_eq_emod_of_nonneg hc0, w64 (by omega) (by omega), wU (n := 7 * (i : Int)) (by omega) (by omega), es, wU (by omega) hup]
/-- One byte behind the tests. -/
theorem rnum_j1 {B : List Int} {k : Nat} {p x c i : Int} :
    examboardref10_number.j1 (k + 1) B p x i c true = some (0, 0, 2) := by simp only [examboardref10_number.j1]; rfl
theorem rnum_l0 (B : List Int) (hB : B.length ≤ 1048576) (hb : Bytes B) : ∀ (j i p k : Nat) (x : Int), i + (j + 1) = 10 → p ≤ B.length → 2 * j + 3 ≤ k → 0 ≤ x → x < 2 ^ (7 * i) →
    SimW B (fun y => x + 2 ^ (7 * i) * y) (examboardref10_number.l0 k B (p : Int) x (i : Int)) (rv 4 (j + 1) (decide (i = 0)) (B.drop p)) := by
  intro j
  induction j with
  | zero =>
    intro i p k x hi hp hk h0 h1
    obtain ⟨k, rfl⟩ : ∃ m, k = m + 2 := ⟨k - 2, by omega⟩
    obtain rfl : i = 9 := by omega
    have hn := need_is hB hp (n := 1) (by decide) (by decide)
    simp only [examboardref10_number.l0, rv]
    rw [if_pos (by decide)]
    by_cases hp1 : p < B.length
    · rw [hn.1 (by omega), Option.bind_some, if_pos rfl, if_pos (by omega), if_pos (by omega), if_pos (show ((9 : Nat) : Int) = 9 from rfl)]
      have hc := hb _ (List.getElem_mem hp1)
      rw [dropI_at B p hp1, rdI_at B p hp1, wU (n := B[p]) (by omega) (by omega)]
      simp only [nx, bd]
      by_cases h2 : B[p] > 1
      · rw [if_pos h2, if_pos (.inl ⟨trivial, h2⟩), rnum_j1]
        exact ⟨0, 0, 2, rfl, by decide⟩
      · rw [if_neg h2, if_pos (by decide)]
        by_cases h3 : B[p] = 0
        · rw [if_pos (.inr ⟨h3, by decide⟩), h3]
          rw [show ((0 : Int) == 0) = true from rfl, rnum_j1]
          exact ⟨0, 0, 2, rfl, by decide⟩
        · rw [if_neg (by rintro (⟨_, h⟩ | ⟨h, _⟩); exact h2 h; exact h3 h), if_pos (by omega), show (B[p] == 0) = false from beq_eq_false_iff_ne.2 h3]
          simp only [examboardref10_number.j1]
          have e := rround_is (x := x) (c := B[p]) (i := 9) (by decide) h0 h1 hc.1 hc.2 (by intro _; omega)
          rw [if_neg (by decide), if_pos (by rw [w64 (by omega) (by omega), wU (by omega) (by omega)]; omega), if_pos (by omega), w64 (i := (p : Int) + 1) (by omega) (by omega)]
          refine ⟨p + 1, ?_, by omega, rfl⟩
          rw [show B[p] % 128 = B[p] from by omega] at e
          rw [show ((9 : Nat) : Int) = 9 from rfl] at e ⊢
          rw [e]
          rfl
    · rw [hn.2 (by omega), Option.bind_some, if_neg (by decide), List.drop_of_length_le (by omega)]
      exact ⟨0, 0, 4, rfl, by decide⟩
  | succ j ih =>
    intro i p k x hi hp hk h0 h1
    obtain ⟨k, rfl⟩ : ∃ m, k = m + 2 := ⟨k - 2, by omega⟩
    have hn := need_is hB hp (n := 1) (by decide) (by decide)
    simp only [examboardref10_number.l0]
    rw [rv, if_pos (by omega)]
    by_cases hp1 : p < B.length
    · rw [hn.1 (by omega), Option.bind_some, if_pos rfl, if_pos (by omega), if_pos (by omega), if_neg (by omega)]
      have hc := hb _ (List.getElem_mem hp1)
      rw [dropI_at B p hp1, rdI_at B p hp1, wU (n := B[p]) (by omega) (by omega)]
      simp only [nx, bd]
      have go : ∀ f : Bool, f = false → ¬ (j + 1 = 0 ∧ B[p] > 1 ∨ B[p] = 0 ∧ decide (i = 0) = false) →
          SimW B (fun y => x + 2 ^ (7 * i) * y) (examboardref10_number.j1 (k + 1) B (wrap64 ((p : Int) + 1)) x (i : Int) B[p] f)
            (if j + 1 = 0 ∧ B[p] > 1 ∨ B[p] = 0 ∧ decide (i = 0) = false then .error 2 else if B[p] < 128 then .ok (B[p], B.drop (p + 1)) else bd (rv 4 (j + 1) false (B.drop (p + 1))) fun y t => .ok (B[p] - 128 + 128 * y, t)) := by
        rintro f rfl hne
        have e := rround_is (x := x) (c := B[p]) (i := i) (by omega) h0 h1 hc.1 hc.2 (by intro h; omega)
        simp only [examboardref10_number.j1]
        rw [if_neg hne, if_neg (by decide), if_pos (by rw [w64 (by omega) (by omega), wU (by omega) (by omega)]; omega), w64 (i := (p : Int) + 1) (by omega) (by omega), e, w64 (i := (i : Int) + 1) (by omega) (by omega)]
        by_cases h128 : B[p] < 128
        · rw [if_pos h128, if_pos h128, show B[p] % 128 = B[p] from by omega]
          exact ⟨p + 1, rfl, by omega, rfl⟩
        · rw [if_neg h128, if_neg h128]
          have hm : B[p] % 128 = B[p] - 128 := by omega
          have hpw := pow_split i
          have hpos : (0 : Int) < 2 ^ (7 * i) := Int.pow_pos (by decide)
          have hle : (2 : Int) ^ (7 * i) * (B[p] % 128) ≤ 2 ^ (7 * i) * 127 := Int.mul_le_mul_of_nonneg_left (by omega) (by omega)
          have hnn : 0 ≤ (2 : Int) ^ (7 * i) * (B[p] % 128) := Int.mul_nonneg (by omega) (by omega)
          have h := ih (i + 1) (p + 1) k (x + 2 ^ (7 * i) * (B[p] % 128)) (by omega) (by omega) (by omega) (by omega) (by rw [hpw]; omega)
          rw [show decide (i + 1 = 0) = false from by simp, show ((i + 1 : Nat) : Int) = (i : Int) + 1 from by omega, show ((p + 1 : Nat) : Int) = (p : Int) + 1 from by omega] at h
          cases er : rv 4 (j + 1) false (B.drop (p + 1)) with
          | error c => rw [er] at h; exact h
          | ok y =>
            obtain ⟨y, t⟩ := y
            rw [er] at h
            obtain ⟨q, hr, hq, hs⟩ := h
            refine ⟨q, ?_, hq, hs⟩
            show _ = some (x + 2 ^ (7 * i) * (B[p] - 128 + 128 * y), (q : Int), 0)
            rw [hr]
            simp only [Option.some.injEq, Prod.mk.injEq, and_true]
            rw [hpw, hm, Int.mul_add, Int.mul_assoc]
            omega
      by_cases hi0 : i = 0
      · rw [if_neg (by omega)]
        exact go false rfl (by simp [hi0])
      · rw [if_pos (by omega)]
        by_cases h3 : B[p] = 0
        · rw [if_pos (.inr ⟨h3, by simp [hi0]⟩), show (B[p] == 0) = true from beq_iff_eq.2 h3, rnum_j1]
          exact ⟨0, 0, 2, rfl, by decide⟩
        · exact go _ (beq_eq_false_iff_ne.2 h3) (by rintro (⟨h, _⟩ | ⟨h, _⟩); omega; exact h3 h)
    · rw [hn.2 (by omega), Option.bind_some, if_neg (by decide), List.drop_of_length_le (by omega)]
      exact ⟨0, 0, 4, rfl, by decide⟩
theorem rnum_is (B : List Int) (hB : B.length ≤ 1048576) (hb : Bytes B) {p k : Nat} (hp : p ≤ B.length) (hk : 30 ≤ k) :
    SimW B id (examboardref10_number.f k B (p : Int)) (rv 4 10 true (B.drop p)) := by
  have h := rnum_l0 B hB hb 9 0 p k 0 (by omega) hp (by omega) (by decide) (by decide)
  unfold examboardref10_number.f
  cases e : rv 4 10 true (B.drop p) with
  | error c => rw [show decide (0 = 0) = true from rfl, e] at h; exact h
  | ok y =>
    rw [show decide (0 = 0) = true from rfl, e] at h
    obtain ⟨q, hr, hq, hs⟩ := h
    refine ⟨q, ?_, hq, hs⟩
    rw [show (examboardref10_number.l0 k B (p : Int) 0 0) = _ from hr]
    simp

def SimM (B : List Int) (r : Option R7) : Except Int (S43 × List Int) → Prop
  | .error _ => ∃ a b e f g p c, r = some (a, b, e, f, g, p, c) ∧ c ≠ 0
  | .ok (n, s) => ∃ p : Nat, r = some (n.f0, n.f1, n.f2, n.f3, n.f4, (p : Int), 0) ∧ p ≤ B.length ∧ s = B.drop p
theorem rkids_l0 (B : List Int) (d kk : Nat) (lv : Int) (hlv : wrap64 (lv + 1) = 9 - (d : Int)) (count : Nat) (hs : count ≤ 1024) (tag kind n : Int) (t : ByteArray)
    (ihd : ∀ (p k : Nat), p ≤ B.length → kk ≤ k → SimM B (examboardref10_node.f k B (p : Int) (9 - (d : Int))) (pn 4 d (B.drop p))) :
    ∀ (m i p k : Nat) (acc : List S43), i + m = count → acc.length = i → p ≤ B.length → kk + m + 1 ≤ k →
    SimM B (examboardref10_node.l0 k B (p : Int) lv (count : Int) (i : Int) tag kind n t acc) (bd (pk (pn 4 d) m (B.drop p)) fun l s => .ok (⟨tag, kind, n, t, acc ++ l⟩, s)) := by
  intro m
  induction m with
  | zero =>
    intro i p k acc hi ha hp hk
    obtain ⟨k, rfl⟩ : ∃ m, k = m + 1 := ⟨k - 1, by omega⟩
    simp only [examboardref10_node.l0, pk, bd, List.append_nil]
    rw [if_neg (by rw [w64 (by omega) (by omega)]; omega)]
    exact ⟨p, rfl, hp, rfl⟩
  | succ m ih =>
    intro i p k acc hi ha hp hk
    obtain ⟨k, rfl⟩ : ∃ m, k = m + 1 := ⟨k - 1, by omega⟩
    have hn := ihd p k hp (by omega)
    simp only [examboardref10_node.l0, pk]
    rw [if_pos (by rw [w64 (by omega) (by omega)]; omega), hlv]
    cases e : pn 4 d (B.drop p) with
    | error c =>
      rw [e] at hn
      obtain ⟨a1, a2, a3, a4, a5, q, c, hr, hc⟩ := hn
      simp only [hr, Option.bind_some, bd]
      rw [if_neg hc]
      exact ⟨_, _, _, _, _, _, _, rfl, hc⟩
    | ok y =>
      obtain ⟨c, s⟩ := y
      rw [e] at hn
      obtain ⟨q, hr, hq, hs'⟩ := hn
      simp only [hr, Option.bind_some]
      rw [if_pos trivial, if_pos (by omega), w64 (i := (i : Int) + 1) (by omega) (by omega), show (⟨c.f0, c.f1, c.f2, c.f3, c.f4⟩ : S43) = c from by cases c; rfl]
      have h := ih (i + 1) q k (acc ++ [c]) (by omega) (by rw [List.length_append, List.length_singleton, ha]) hq (by omega)
      rw [← hs', show ((i + 1 : Nat) : Int) = (i : Int) + 1 from by omega] at h
      cases e2 : pk (pn 4 d) m s with
      | error c' => rw [e2] at h; simp only [bd, e2]; exact h
      | ok y =>
        rw [e2] at h
        obtain ⟨l, u⟩ := y
        simp only [bd, List.append_assoc, List.cons_append, List.nil_append] at h
        simp only [bd, e2]
        exact h
theorem pk_nx_drop (e : Int) (B : List Int) : ∀ (n p : Nat), p ≤ B.length → pk (nx e) n (B.drop p) = if p + n ≤ B.length then .ok ((B.drop p).take n, B.drop (p + n)) else .error e := by
  intro n
  induction n with
  | zero => intro p hp; rw [if_pos (by omega)]; rfl
  | succ n ih =>
    intro p hp
    rw [pk]
    by_cases h : p < B.length
    · rw [dropI_at B p h]
      simp only [nx, bd]
      rw [ih (p + 1) (by omega)]
      by_cases h2 : p + (n + 1) ≤ B.length
      · rw [if_pos (by omega), if_pos h2, List.take_succ_cons, show p + 1 + n = p + (n + 1) from by omega]
      · rw [if_neg (by omega), if_neg h2]
    · rw [List.drop_of_length_le (by omega), if_neg (by omega)]
      rfl
theorem rtext_is (B : List Int) (hB : B.length ≤ 1048576) {p : Nat} (hp : p ≤ B.length) {x tag : Int} (h0 : 0 ≤ x) :
    SimM B (examboardref10_text.f B (p : Int) x tag 2 0 nul []) (if x > 2000 then .error 5 else bd (pk (nx 4) x.toNat (B.drop p)) fun l s => .ok (⟨tag, 2, 0, strOfNums l, []⟩, s)) := by
  unfold examboardref10_text.f
  by_cases h1 : x > 2000
  · rw [if_pos h1, if_pos h1]
    exact ⟨_, _, _, _, _, _, _, rfl, by decide⟩
  · rw [if_neg h1, if_neg h1, w64 (i := x) (by omega) (by omega), pk_nx_drop 4 B _ p hp]
    have hn := need_is hB hp (n := x) h0 (by omega)
    by_cases h2 : x ≤ (B.length : Int) - (p : Int)
    · rw [hn.1 h2, Option.bind_some, if_pos rfl, if_pos (by omega), w64 (i := (p : Int) + x) (by omega) (by omega), if_pos (by omega), if_pos (by omega), if_pos (by omega)]
      refine ⟨p + x.toNat, ?_, by omega, rfl⟩
      rw [show ((p : Int) + x).toNat = p + x.toNat from by omega, Int.toNat_natCast, List.drop_take, show p + x.toNat - p = x.toNat from by omega, show ((p + x.toNat : Nat) : Int) = (p : Int) + x from by omega]
    · rw [hn.2 h2, Option.bind_some, if_neg (by decide), if_neg (by omega)]
      exact ⟨_, _, _, _, _, _, _, rfl, by decide⟩
theorem rnode_is (B : List Int) (hB : B.length ≤ 1048576) (hb : Bytes B) : ∀ (d p k : Nat), d ≤ 8 → p ≤ B.length → 2200 * d + 50 ≤ k →
    SimM B (examboardref10_node.f k B (p : Int) (9 - (d : Int))) (pn 4 d (B.drop p)) := by
  intro d
  induction d with
  | zero =>
    intro p k _ hp hk
    obtain ⟨k, rfl⟩ : ∃ m, k = m + 1 := ⟨k - 1, by omega⟩
    simp only [examboardref10_node.f, pn]
    rw [if_pos (by decide)]
    exact ⟨_, _, _, _, _, _, _, rfl, by decide⟩
  | succ d ih =>
    intro p k hd hp hk
    obtain ⟨k, rfl⟩ : ∃ m, k = m + 2 := ⟨k - 2, by omega⟩
    simp only [examboardref10_node.f, pn, lm]
    rw [if_neg (by omega)]
    have h1 := rnum_is B hB hb (p := p) (k := k + 1) hp (by omega)
    cases e1 : rv 4 10 true (B.drop p) with
    | error c =>
      rw [e1] at h1
      obtain ⟨v, q, c, hr, hc⟩ := h1
      simp only [hr, Option.bind_some, bd]
      rw [if_neg hc]
      exact ⟨_, _, _, _, _, _, _, rfl, hc⟩
    | ok y =>
    obtain ⟨tag, s1⟩ := y
    have ht := rv_acc (s := B.drop p) (fun x hx => hb x (List.mem_of_mem_drop hx)) e1
    rw [e1] at h1
    obtain ⟨q1, hr1, hq1, hs1⟩ := h1
    simp only [hr1, Option.bind_some, bd, id_eq]
    rw [if_pos trivial]
    by_cases htag : tag > 9999999
    · rw [if_pos htag, if_pos htag]
      exact ⟨_, _, _, _, _, _, _, rfl, by decide⟩
    rw [if_neg htag, if_neg htag]
    dsimp only
    have hn := need_is hB hq1 (n := 1) (by decide) (by decide)
    by_cases hp0 : ¬ q1 < B.length
    · rw [hn.2 (by omega), Option.bind_some, if_neg (by decide), hs1, List.drop_of_length_le (by omega)]
      exact ⟨_, _, _, _, _, _, _, rfl, by decide⟩
    have hp1 : q1 < B.length := by omega
    rw [hn.1 (by omega), Option.bind_some, if_pos rfl, if_pos (by omega), if_pos (by omega), hs1, dropI_at B q1 hp1, rdI_at B q1 hp1]
    have hkb := hb _ (List.getElem_mem hp1)
    simp only [nx]
    rw [w64 (i := B[q1]) (by omega) (by omega), w64 (i := tag) (by omega) (by omega)]
    have hj : ∀ f : Bool, (f = true ↔ B[q1] < 1 ∨ B[q1] > 3) → SimM B (examboardref10_node.j0 (k + 1) B (q1 : Int) (9 - ((d + 1 : Nat) : Int)) f tag B[q1] 0 nul)
        (if B[q1] = 1 then bd (rv 4 10 true (B.drop (q1 + 1))) fun x s3 => .ok (⟨tag, 1, uz x, nul, []⟩, s3)
        else if B[q1] = 2 then bd (bd (rv 4 10 true (B.drop (q1 + 1))) fun x r => if x > 2000 then .error 5 else .ok (x, r)) fun n s3 => bd (pk (nx 4) n.toNat s3) fun l s4 => .ok (⟨tag, 2, 0, strOfNums l, []⟩, s4)
        else if B[q1] = 3 then bd (bd (rv 4 10 true (B.drop (q1 + 1))) fun x r => if x > 1024 then .error 5 else .ok (x, r)) fun n s3 => bd (pk (pn 4 d) n.toNat s3) fun l s4 => .ok (⟨tag, 3, 0, nul, l⟩, s4)
        else .error 2) := by
      intro f hf
      simp only [examboardref10_node.j0]
      by_cases hk0 : B[q1] < 1 ∨ B[q1] > 3
      · rw [if_pos (hf.2 hk0), if_neg (by omega), if_neg (by omega), if_neg (by omega)]
        exact ⟨_, _, _, _, _, _, _, rfl, by decide⟩
      rw [if_neg (fun h => hk0 (hf.1 h)), w64 (i := (q1 : Int) + 1) (by omega) (by omega)]
      have h3 := rnum_is B hB hb (p := q1 + 1) (k := k) (by omega) (by omega)
      rw [show ((q1 + 1 : Nat) : Int) = (q1 : Int) + 1 from by omega] at h3
      cases e3 : rv 4 10 true (B.drop (q1 + 1)) with
      | error c =>
        rw [e3] at h3
        obtain ⟨v, q, c, hr, hc⟩ := h3
        simp only [hr, Option.bind_some, bd]
        rw [if_neg hc]
        rcases (show B[q1] = 1 ∨ B[q1] = 2 ∨ B[q1] = 3 by omega) with h | h | h
        all_goals (simp only [h]; exact ⟨_, _, _, _, _, _, _, rfl, hc⟩)
      | ok y =>
      obtain ⟨x, s3⟩ := y
      have hx := rv_acc (s := B.drop (q1 + 1)) (fun x hx => hb x (List.mem_of_mem_drop hx)) e3
      rw [e3] at h3
      obtain ⟨q3, hr3, hq3, hs3⟩ := h3
      simp only [hr3, Option.bind_some, bd, id_eq]
      rw [if_pos trivial]
      by_cases k1 : B[q1] = 1
      · rw [if_pos k1, if_pos k1, Int.tmod_eq_emod_of_nonneg hx.2.1, Int.tdiv_eq_ediv_of_nonneg hx.2.1, wU (n := x / 2) (by omega) (by omega), k1]
        unfold uz
        by_cases hodd : x % 2 = 1
        · rw [if_pos hodd, if_pos hodd, w64 (i := x / 2) (by omega) (by omega), w64 (i := -(x / 2)) (by omega) (by omega), w64 (by omega) (by omega)]
          exact ⟨q3, rfl, hq3, hs3⟩
        · rw [if_neg hodd, if_neg hodd, w64 (i := x / 2) (by omega) (by omega)]
          exact ⟨q3, rfl, hq3, hs3⟩
      rw [if_neg k1, if_neg k1]
      by_cases k2 : B[q1] = 2
      · rw [if_pos k2, if_pos k2, k2]
        have h4 := rtext_is B hB hq3 (x := x) (tag := tag) hx.2.1
        rw [← hs3] at h4
        by_cases h5 : x > 2000
        · rw [if_pos h5] at h4
          rw [if_pos h5]
          obtain ⟨a1, a2, a3, a4, a5, a6, a7, hr, hc⟩ := h4
          rw [hr]
          exact ⟨_, _, _, _, _, _, _, rfl, hc⟩
        · rw [if_neg h5] at h4
          rw [if_neg h5]
          cases e6 : pk (nx 4) x.toNat s3 with
          | error c =>
            rw [e6] at h4
            obtain ⟨a1, a2, a3, a4, a5, a6, a7, hr, hc⟩ := h4
            rw [hr]
            simp only [e6]
            exact ⟨_, _, _, _, _, _, _, rfl, hc⟩
          | ok y =>
            obtain ⟨l, u⟩ := y
            rw [e6] at h4
            obtain ⟨q, hr, hq, hs⟩ := h4
            rw [hr]
            simp only [e6]
            exact ⟨q, rfl, hq, hs⟩
      rw [if_neg k2, if_neg k2]
      have k3 : B[q1] = 3 := by omega
      rw [if_pos k3, k3]
      by_cases h5 : x > 1024
      · rw [if_pos h5, if_pos h5]
        exact ⟨_, _, _, _, _, _, _, rfl, by decide⟩
      rw [if_neg h5, if_neg h5]
      have h4 := rkids_l0 B d (2200 * d + 50) (9 - ((d + 1 : Nat) : Int)) (by rw [w64 (by omega) (by omega)]; omega) x.toNat (by omega) tag 3 0 nul (fun p k hp hk => ih p k (by omega) hp hk) x.toNat 0 q3 k [] (by omega) rfl hq3 (by omega)
      rw [← hs3, show ((x.toNat : Nat) : Int) = x from by omega] at h4
      exact h4
    by_cases hk1 : B[q1] < 1
    · rw [if_pos hk1]
      exact hj true ⟨fun _ => .inl hk1, fun _ => rfl⟩
    · rw [if_neg hk1]
      exact hj _ ⟨fun h => .inr (of_decide_eq_true h), fun h => decide_eq_true (by omega)⟩
/-- The reference's Decode: the parser, but for the errors' codes. -/
theorem rDecode_is {B : List Int} {k : Nat} (hB : B.length ≤ 1048576) (hb : Bytes B) (hk : 20000 ≤ k) :
    match pn 4 8 B with
    | .error _ => ∃ a b e f g p c, examboardref10_Decode.f k B = some (a, b, e, f, g, p, c) ∧ c ≠ 0
    | .ok (n, s) => examboardref10_Decode.f k B = some (n.f0, n.f1, n.f2, n.f3, n.f4, (B.length : Int) - (s.length : Int), 0) := by
  have h := rnode_is B hB hb 8 0 k (by decide) (by omega) (by omega)
  rw [List.drop_zero] at h
  unfold examboardref10_Decode.f
  rw [show (1 : Int) = 9 - ((8 : Nat) : Int) from by decide]
  cases e : pn 4 8 B with
  | error c =>
    rw [e] at h
    obtain ⟨a1, a2, a3, a4, a5, a6, a7, hr, hc⟩ := h
    refine ⟨a1, a2, a3, a4, a5, a6, a7, ?_, hc⟩
    rw [show examboardref10_node.f k B 0 (9 - ((8 : Nat) : Int)) = _ from hr]
    rfl
  | ok y =>
    obtain ⟨n, s⟩ := y
    rw [e] at h
    obtain ⟨q, hr, hq, hs⟩ := h
    have hl : s.length = B.length - q := by rw [hs, List.length_drop]
    rw [show examboardref10_node.f k B 0 (9 - ((8 : Nat) : Int)) = _ from hr]
    simp only [Option.bind_some, Option.some.injEq, Prod.mk.injEq, and_true, true_and]
    omega
end Go.Proofs.YteeggfnailpcpaaDoor.Cod

