/- Words of the kit's printer that this claim uses, cut to these by wip/trim.py. -/
import Derived.Test.YteeggfnailpcpaaDoorCod
import Derived.Test.YteeggfnailpcpaaDoorQx4
namespace Go.Proofs.YteeggfnailpcpaaDoor.Cod
open Go.RowKit Go.Proofs.YteeggfnailpcpaaDoor.Q Go.Proofs.YteeggfnailpcpaaDoorW.PrintWords Go.Proofs.YteeggfnailpcpaaDoorW.PrintLast Go.Proofs.YteeggfnailpcpaaDoorW.PrintMore

theorem wrapU (n : Int) : IntKind.u64.wrap n = n % 18446744073709551616 := by
  simp [IntKind.wrap, IntKind.bits, IntKind.signed]
theorem wU {n : Int} (h0 : 0 ≤ n) (h1 : n < 18446744073709551616) : IntKind.u64.wrap n = n := by rw [wrapU]; exact Int.emod_eq_of_lt h0 h1
theorem w64 {i : Int} (h0 : -9223372036854775808 ≤ i) (h : i < 9223372036854775808) : wrap64 i = i := by unfold wrap64; omega
theorem or128 {y : Int} (h0 : 0 ≤ y) (h1 : y < 256) : Go.bits .or .u8 y 128 = y % 128 + 128 := by
  obtain ⟨n, rfl⟩ := Int.eq_ofNat_of_zero_le h0
  have h2 : n < 256 := by omega
  have h3 : ∀ m : Fin 256, Go.bits .or .u8 ((m.val : Nat) : Int) 128 = ((m.val : Nat) : Int) % 128 + 128 := by decide +kernel
  exact h3 ⟨n, h2⟩
theorem orU {x y : Int} {i : Nat} (hi : i ≤ 63) (hx0 : 0 ≤ x) (hx : x % 2 ^ i = 0) (hx1 : x < 18446744073709551616) (hy0 : 0 ≤ y) (hy : y < 2 ^ i) : Go.bits .or .u64 x y = x + y := by
  refine bits_join .u64 64 (by decide) (fun n h0 h1 => wU h0 h1) i x y hx0 hx hx1 hy0 hy ?_
  refine Int.lt_of_lt_of_le hy ?_
  have : (2 : Nat) ^ i ≤ 2 ^ 64 := Nat.pow_le_pow_right (by decide) (by omega)
  exact_mod_cast this
theorem or_comm (x y : Int) : Go.bits .or .u64 x y = Go.bits .or .u64 y x := by
  unfold Go.bits
  simp only [BitVec.or_comm]
theorem zigzag_is {n : Int} (h0 : -9223372036854775808 ≤ n) (h1 : n < 9223372036854775808) : codec_zigzag.f n = some (zz n) := by
  unfold codec_zigzag.f zz
  split
  · rw [w64 (i := n + 1) (by omega) (by omega), w64 (i := -(n + 1)) (by omega) (by omega), wU (n := -(n + 1)) (by omega) (by omega), wU (n := -(n + 1) * 2) (by omega) (by omega), orU (i := 1) (by decide) (by omega) (by omega) (by omega) (by decide) (by decide)]
    congr 1
    omega
  · rw [wU (n := n) (by omega) (by omega), wU (n := n * 2) (by omega) (by omega)]
    congr 1
    omega
theorem rdT (l : List S43) (i : Nat) (h : i < l.length) : rd_T43 l (i : Int) = l[i] := by unfold rd_T43; simp [h]
theorem drop_at (l : List S43) (i : Nat) (h : i < l.length) : l.drop i = l[i] :: l.drop (i + 1) := List.drop_eq_getElem_cons h
theorem p7 (j : Nat) : (2 : Int) ^ (7 * (j + 1) + 7) = 2 ^ (7 * j + 7) * 128 := by rw [show 7 * (j + 1) + 7 = (7 * j + 7) + 7 from by omega, Int.pow_add]; rfl

theorem vsize_l0 : ∀ (j : Nat) (x n : Int) (k : Nat), 0 ≤ x → x < 2 ^ (7 * j + 7) → j < k → 0 ≤ n → n < 1000 → j ≤ 100 →
    codec_varintSize.l0 k x n = some (n + ((vi j x).length : Int) - 1) := by
  intro j
  induction j with
  | zero =>
    intro x n k h0 h1 hk _ _ _
    obtain ⟨k, rfl⟩ : ∃ m, k = m + 1 := ⟨k - 1, by omega⟩
    have : x < 128 := h1
    simp only [codec_varintSize.l0, vi]
    rw [if_neg (by omega)]
    simp
  | succ j ih =>
    intro x n k h0 h1 hk n0 n1 hj
    obtain ⟨k, rfl⟩ : ∃ m, k = m + 1 := ⟨k - 1, by omega⟩
    rw [p7] at h1
    simp only [codec_varintSize.l0, vi]
    by_cases hx : x > 127
    · rw [if_pos hx, if_pos hx, w64 (by omega) (by omega)]
      by_cases hn : n + 1 < 1000
      · rw [ih (x / 128) (n + 1) k (by omega) (by omega) (by omega) (by omega) hn (by omega), List.length_cons]
        congr 1
        omega
      · have : n + 1 = 1000 := by omega
        have hl : ∀ (j : Nat) (x n : Int) (k : Nat), 0 ≤ x → x < 2 ^ (7 * j + 7) → j < k → 0 ≤ n → n + j < 9000000 → codec_varintSize.l0 k x n = some (n + ((vi j x).length : Int) - 1) := by
          intro j
          induction j with
          | zero =>
            intro x n k h0 h1 hk _ _
            obtain ⟨k, rfl⟩ : ∃ m, k = m + 1 := ⟨k - 1, by omega⟩
            have : x < 128 := h1
            simp only [codec_varintSize.l0, vi]
            rw [if_neg (by omega)]
            simp
          | succ j ih =>
            intro x n k h0 h1 hk n0 n1
            obtain ⟨k, rfl⟩ : ∃ m, k = m + 1 := ⟨k - 1, by omega⟩
            rw [p7] at h1
            simp only [codec_varintSize.l0, vi]
            by_cases hx : x > 127
            · rw [if_pos hx, if_pos hx, w64 (by omega) (by omega), ih (x / 128) (n + 1) k (by omega) (by omega) (by omega) (by omega) (by omega), List.length_cons]
              congr 1
              omega
            · rw [if_neg hx, if_neg hx]; simp
        rw [hl j (x / 128) (n + 1) k (by omega) (by omega) (by omega) (by omega) (by omega), List.length_cons]
        congr 1
        omega
    · rw [if_neg hx, if_neg hx]; simp
theorem big {x : Int} (h : x < 18446744073709551616) : x < 2 ^ (7 * 9 + 7) := Int.lt_trans h (by decide)
theorem vsize_is {k : Nat} {x : Int} (h0 : 0 ≤ x) (h1 : x < 18446744073709551616) (hk : 10 ≤ k) : codec_varintSize.f k x = some ((vi 9 x).length : Int) := by
  unfold codec_varintSize.f
  rw [vsize_l0 9 x 1 k h0 (big h1) (by omega) (by decide) (by decide) (by decide)]
  congr 1
  omega
theorem putv_l0 : ∀ (j : Nat) (x : Int) (b : List Int) (k : Nat), 0 ≤ x → x < 2 ^ (7 * j + 7) → j < k → b.length + (vi j x).length ≤ 140737488355328 →
    codec_putVarint.l0 k b x = some (b ++ vi j x) := by
  intro j
  induction j with
  | zero =>
    intro x b k h0 h1 hk hb
    obtain ⟨k, rfl⟩ : ∃ m, k = m + 1 := ⟨k - 1, by omega⟩
    have : x < 128 := h1
    simp only [vi, List.length_singleton] at hb
    simp only [codec_putVarint.l0, vi]
    rw [if_neg (by omega), if_pos (by omega), show x % 256 = x from by omega]
  | succ j ih =>
    intro x b k h0 h1 hk hb
    obtain ⟨k, rfl⟩ : ∃ m, k = m + 1 := ⟨k - 1, by omega⟩
    rw [p7] at h1
    simp only [codec_putVarint.l0]
    rw [vi] at hb ⊢
    by_cases hx : x > 127
    · rw [if_pos hx, List.length_cons] at hb
      rw [if_pos hx, if_pos hx, if_pos (by omega), or128 (by omega) (by omega), show x % 256 % 128 = x % 128 from by omega,
        ih (x / 128) _ k (by omega) (by omega) (by omega) (by rw [List.length_append, List.length_singleton]; omega), List.append_assoc]
      rfl
    · rw [if_neg hx, List.length_singleton] at hb
      rw [if_neg hx, if_neg hx, if_pos (by omega), show x % 256 = x from by omega]
theorem putv_is {k : Nat} {x : Int} {b : List Int} (h0 : 0 ≤ x) (h1 : x < 18446744073709551616) (hk : 10 ≤ k) (hb : b.length + (vi 9 x).length ≤ 140737488355328) :
    codec_putVarint.f k b x = some (b ++ vi 9 x) := putv_l0 9 x b k h0 (big h1) (by omega) hb

/-- what the arguments' types say of the numbers -/
def Wf : Nat → S43 → Prop
  | 0, _ => True
  | d + 1, n => (-9223372036854775808 ≤ n.f2 ∧ n.f2 < 9223372036854775808) ∧ ∀ x ∈ n.f4, Wf d x
open Classical in
noncomputable def szv (d : Nat) (n : S43) : Int := if Ok d n ∧ (enc d n).length ≤ 1048576 then ((enc d n).length : Int) else -1
theorem szv_pos {d : Nat} {n : S43} (h : Ok d n) (hl : (enc d n).length ≤ 1048576) : szv d n = ((enc d n).length : Int) := by unfold szv; rw [if_pos ⟨h, hl⟩]
theorem szv_neg {d : Nat} {n : S43} (h : Ok d n → ¬ (enc d n).length ≤ 1048576) : szv d n = -1 := by unfold szv; rw [if_neg (fun ⟨a, b⟩ => h a b)]
theorem size_l0 {d : Nat} {kk : Nat} {lv : Int} (hlv : lv + 1 = 9 - (d : Int)) (hd : d ≤ 8) (l : List S43) (hl : l.length ≤ 1024)
    (ih : ∀ x ∈ l, ∀ k, kk ≤ k → codec_size.f k x.f0 x.f1 x.f2 x.f3 x.f4 (9 - (d : Int)) = some (szv d x)) :
    ∀ (m i : Nat) (acc : Int) (k : Nat), i + m = l.length → 0 ≤ acc → acc ≤ 1048576 → kk + m + 1 ≤ k →
    ∃ v, codec_size.l0 k lv acc l (l.length : Int) (i : Int) = some v ∧
      ((∀ x ∈ l.drop i, Ok d x) → acc + (((l.drop i).flatMap (enc d)).length : Int) ≤ 1048576 → v = acc + (((l.drop i).flatMap (enc d)).length : Int)) ∧
      (¬ ((∀ x ∈ l.drop i, Ok d x) ∧ acc + (((l.drop i).flatMap (enc d)).length : Int) ≤ 1048576) → v = -1) := by
  intro m
  induction m with
  | zero =>
    intro i acc k hi h0 h1 hk
    obtain ⟨k, rfl⟩ : ∃ m, k = m + 1 := ⟨k - 1, by omega⟩
    have e : l.drop i = [] := List.drop_of_length_le (by omega)
    simp only [codec_size.l0]
    rw [if_neg (by omega), e]
    refine ⟨acc, rfl, fun _ _ => by simp, fun h => absurd ⟨fun x hx => (by cases hx), by simpa using h1⟩ h⟩
  | succ m ihm =>
    intro i acc k hi h0 h1 hk
    obtain ⟨k, rfl⟩ : ∃ m, k = m + 1 := ⟨k - 1, by omega⟩
    have hlt : i < l.length := by omega
    simp only [codec_size.l0]
    rw [if_pos (by omega), if_pos (by omega), if_pos (by omega), rdT l i hlt, w64 (by omega) (by omega), hlv, ih l[i] (List.getElem_mem hlt) k (by omega), Option.bind_some, drop_at l i hlt, List.flatMap_cons, List.length_append]
    by_cases hok : Ok d l[i] ∧ (enc d l[i]).length ≤ 1048576
    · rw [szv_pos hok.1 hok.2, if_neg (by omega), w64 (by omega) (by omega)]
      by_cases hs : acc + ((enc d l[i]).length : Int) > 1048576
      · rw [if_pos hs]
        exact ⟨-1, rfl, fun _ h => by omega, fun _ => rfl⟩
      · rw [if_neg hs, w64 (by omega) (by omega)]
        obtain ⟨v, hv, p1, p2⟩ := ihm (i + 1) (acc + ((enc d l[i]).length : Int)) k (by omega) (by omega) (by omega) (by omega)
        refine ⟨v, by exact_mod_cast hv, fun a b => ?_, fun h => p2 fun ⟨a, b⟩ => h ⟨fun x hx => ?_, by omega⟩⟩
        · rw [p1 (fun x hx => a x (List.mem_cons_of_mem _ hx)) (by omega)]
          omega
        · rcases List.mem_cons.1 hx with rfl | hx
          · exact hok.1
          · exact a x hx
    · rw [szv_neg (fun a b => hok ⟨a, b⟩), if_pos (by decide)]
      refine ⟨-1, rfl, fun a b => ?_, fun _ => rfl⟩
      exact absurd ⟨a _ (List.mem_cons_self ..), by omega⟩ hok
theorem size_is : ∀ (d : Nat) (n : S43) (k : Nat), d ≤ 8 → Wf d n → 1100 * d + 50 ≤ k → codec_size.f k n.f0 n.f1 n.f2 n.f3 n.f4 (9 - (d : Int)) = some (szv d n) := by
  intro d
  induction d with
  | zero =>
    intro n k _ _ hk
    obtain ⟨k, rfl⟩ : ∃ m, k = m + 2 := ⟨k - 2, by omega⟩
    simp only [codec_size.f, codec_size.j0]
    rw [if_pos (by decide), if_pos trivial, szv_neg (d := 0) (fun h => (show False from h).elim)]
  | succ d ih =>
    intro n k hd hw hk
    obtain ⟨f0, f1, f2, f3, f4⟩ := n
    obtain ⟨k, rfl⟩ : ∃ m, k = m + 4 := ⟨k - 4, by omega⟩
    obtain ⟨hw2, hwk⟩ := hw
    simp only at hw2 hwk
    simp only [codec_size.f, codec_size.j0, codec_size.j1, codec_size.j2]
    rw [if_neg (by omega)]
    by_cases h0 : f0 < 0
    · rw [if_pos h0, if_pos trivial, szv_neg (fun h => by have := h.1.1; simp only at this; omega)]
    rw [if_neg h0]
    by_cases h1 : f0 > 9999999
    · rw [if_pos (by simpa using h1), szv_neg (fun h => by have := h.1.2; simp only at this; omega)]
    rw [if_neg (by simpa using h1), wU (by omega) (by omega), vsize_is (by omega) (by omega) (by omega), Option.bind_some]
    have hf0 : 0 ≤ f0 ∧ f0 ≤ 9999999 := ⟨by omega, by omega⟩
    have v0 := vi_len 9 f0
    have emp : ∀ {s : ByteArray}, s.toList = ([] : List UInt8) ↔ s = nul := fun {s} => ⟨nul_of_toList, fun h => by rw [h]; exact nul_toList⟩
    have e3 : ((9 : Nat) : Int) = 9 := rfl
    by_cases k1 : f1 = 1
    · subst k1
      rw [if_pos rfl]
      by_cases hs : f3 = nul
      · rw [if_pos (emp.2 hs)]
        by_cases h4 : f4 = []
        · subst hs h4
          rw [if_neg (by simp), zigzag_is hw2.1 hw2.2, Option.bind_some, vsize_is (zz_range hw2.1 hw2.2).1 (zz_range hw2.1 hw2.2).2 (by omega), Option.bind_some]
          have v1 := vi_len 9 (zz f2)
          have el : (enc (d + 1) ⟨f0, 1, f2, nul, []⟩).length = (vi 9 f0).length + 1 + (vi 9 (zz f2)).length := by simp [enc]; omega
          rw [szv_pos (d := d + 1) (n := ⟨f0, 1, f2, nul, []⟩) ⟨hf0, .inl ⟨rfl, hw2, rfl, rfl⟩⟩ (by rw [el]; omega), el, w64 (i := ((vi 9 f0).length : Int) + 1) (by omega) (by omega), w64 (i := ((vi 9 f0).length : Int) + 1 + ((vi 9 (zz f2)).length : Int)) (by omega) (by omega)]
          congr 1
        · rw [if_pos (by have := List.length_pos_iff.2 h4; simp only [decide_eq_true_eq]; omega), szv_neg]
          rintro ⟨_, ⟨_, _, _, h⟩ | ⟨h, _⟩ | ⟨h, _⟩⟩
          · exact absurd h h4
          · exact absurd h (by simp)
          · exact absurd h (by simp)
      · rw [if_neg (fun h => hs (emp.1 h)), if_pos trivial, szv_neg]
        rintro ⟨_, ⟨_, _, h, _⟩ | ⟨h, _⟩ | ⟨h, _⟩⟩
        · exact absurd h hs
        · exact absurd h (by simp)
        · exact absurd h (by simp)
    rw [if_neg k1]
    by_cases k2 : f1 = 2
    · subst k2
      rw [if_pos rfl]
      by_cases hn : f2 = 0
      · rw [if_pos hn]
        by_cases h4 : f4 = []
        · rw [if_neg (by rw [h4]; simp)]
          by_cases h3 : f3.size ≤ 2000
          · subst hn h4
            rw [if_neg (by omega), wU (by omega) (by omega), vsize_is (by omega) (by omega) (by omega), Option.bind_some]
            have v1 := vi_len 9 (f3.size : Int)
            have el : (enc (d + 1) ⟨f0, 2, 0, f3, []⟩).length = (vi 9 f0).length + 1 + ((vi 9 (f3.size : Int)).length + f3.size) := by simp [enc, bytesOf_len]; omega
            rw [szv_pos (d := d + 1) (n := ⟨f0, 2, 0, f3, []⟩) ⟨hf0, .inr (.inl ⟨rfl, rfl, h3, rfl⟩)⟩ (by rw [el]; omega), el, w64 (i := ((vi 9 f0).length : Int) + 1) (by omega) (by omega), w64 (i := ((vi 9 f0).length : Int) + 1 + ((vi 9 (f3.size : Int)).length : Int)) (by omega) (by omega), w64 (by omega) (by omega)]
            congr 1
            omega
          · rw [if_pos (by omega), szv_neg]
            rintro ⟨_, ⟨h, _⟩ | ⟨_, _, h, _⟩ | ⟨h, _⟩⟩
            · exact absurd h (by simp)
            · exact absurd h h3
            · exact absurd h (by simp)
        · rw [if_pos (by have := List.length_pos_iff.2 h4; omega), szv_neg]
          rintro ⟨_, ⟨h, _⟩ | ⟨_, _, _, h⟩ | ⟨h, _⟩⟩
          · exact absurd h (by simp)
          · exact absurd h h4
          · exact absurd h (by simp)
      · rw [if_neg hn, szv_neg]
        rintro ⟨_, ⟨h, _⟩ | ⟨_, h, _⟩ | ⟨h, _⟩⟩
        · exact absurd h (by simp)
        · exact absurd h hn
        · exact absurd h (by simp)
    rw [if_neg k2]
    by_cases k3 : f1 = 3
    · subst k3
      rw [if_pos rfl]
      by_cases hn : f2 = 0
      · rw [if_pos hn]
        by_cases hs : f3 = nul
        · rw [if_pos (emp.2 hs)]
          by_cases h4 : f4.length ≤ 1024
          · subst hn hs
            rw [if_neg (by simp only [decide_eq_true_eq]; omega), wU (by omega) (by omega), vsize_is (by omega) (by omega) (by omega), Option.bind_some]
            have v1 := vi_len 9 (f4.length : Int)
            have el : (enc (d + 1) ⟨f0, 3, 0, nul, f4⟩).length = (vi 9 f0).length + 1 + ((vi 9 (f4.length : Int)).length + (f4.flatMap (enc d)).length) := by simp [enc]; omega
            obtain ⟨v, hv, p1, p2⟩ := size_l0 (d := d) (kk := 1100 * d + 50) (lv := 9 - ((d + 1 : Nat) : Int)) (by omega) (by omega) f4 h4 (fun x hx k hk => ih x k (by omega) (hwk x hx) hk) f4.length 0 (((vi 9 f0).length : Int) + 1 + ((vi 9 (f4.length : Int)).length : Int)) (k + 1) (by omega) (by omega) (by omega) (by omega)
            rw [List.drop_zero] at p1 p2
            rw [w64 (i := ((vi 9 f0).length : Int) + 1) (by omega) (by omega), w64 (i := ((vi 9 f0).length : Int) + 1 + ((vi 9 (f4.length : Int)).length : Int)) (by omega) (by omega)]
            refine Eq.trans hv (congrArg some ?_)
            by_cases ho : (∀ x ∈ f4, Ok d x) ∧ ((vi 9 f0).length : Int) + 1 + ((vi 9 (f4.length : Int)).length : Int) + ((f4.flatMap (enc d)).length : Int) ≤ 1048576
            · rw [p1 ho.1 ho.2, szv_pos (d := d + 1) (n := ⟨f0, 3, 0, nul, f4⟩) ⟨hf0, .inr (.inr ⟨rfl, rfl, rfl, h4, ho.1⟩)⟩ (by rw [el]; omega), el]
              omega
            · rw [p2 ho, szv_neg]
              rintro ⟨_, ⟨h, _⟩ | ⟨h, _⟩ | ⟨_, _, _, _, h⟩⟩
              · exact absurd h (by simp)
              · exact absurd h (by simp)
              · rw [el]; intro hl; exact ho ⟨h, by omega⟩
          · rw [if_pos (by simp only [decide_eq_true_eq]; omega), szv_neg]
            rintro ⟨_, ⟨h, _⟩ | ⟨h, _⟩ | ⟨_, _, _, h, _⟩⟩
            · exact absurd h (by simp)
            · exact absurd h (by simp)
            · exact absurd h h4
        · rw [if_neg (fun h => hs (emp.1 h)), if_pos trivial, szv_neg]
          rintro ⟨_, ⟨h, _⟩ | ⟨h, _⟩ | ⟨_, _, h, _, _⟩⟩
          · exact absurd h (by simp)
          · exact absurd h (by simp)
          · exact absurd h hs
      · rw [if_neg hn, if_pos trivial, szv_neg]
        rintro ⟨_, ⟨h, _⟩ | ⟨h, _⟩ | ⟨_, h, _⟩⟩
        · exact absurd h (by simp)
        · exact absurd h (by simp)
        · exact absurd h hn
    rw [if_neg k3, szv_neg]
    rintro ⟨_, ⟨h, _⟩ | ⟨h, _⟩ | ⟨h, _⟩⟩
    · exact absurd h k1
    · exact absurd h k2
    · exact absurd h k3

theorem put_l0 {d : Nat} {kk : Nat} (l : List S43) (hl : l.length ≤ 1024)
    (ih : ∀ x ∈ l, ∀ (b : List Int) (k : Nat), kk ≤ k → b.length + (enc d x).length < 140737488355328 → codec_put.f k b x.f0 x.f1 x.f2 x.f3 x.f4 = some (b ++ enc d x)) :
    ∀ (m i : Nat) (b : List Int) (k : Nat), i + m = l.length → kk + m + 1 ≤ k → b.length + ((l.drop i).flatMap (enc d)).length < 140737488355328 →
    codec_put.l0 k b l (l.length : Int) (i : Int) = some (b ++ (l.drop i).flatMap (enc d)) := by
  intro m
  induction m with
  | zero =>
    intro i b k hi hk hb
    obtain ⟨k, rfl⟩ : ∃ m, k = m + 1 := ⟨k - 1, by omega⟩
    simp only [codec_put.l0]
    rw [if_neg (by omega), List.drop_of_length_le (by omega), List.flatMap_nil, List.append_nil]
  | succ m ihm =>
    intro i b k hi hk hb
    obtain ⟨k, rfl⟩ : ∃ m, k = m + 1 := ⟨k - 1, by omega⟩
    have hlt : i < l.length := by omega
    rw [drop_at l i hlt, List.flatMap_cons, List.length_append] at hb
    simp only [codec_put.l0]
    rw [if_pos (by omega), if_pos (by omega), if_pos (by omega), rdT l i hlt, ih l[i] (List.getElem_mem hlt) b k (by omega) (by omega), Option.bind_some, w64 (by omega) (by omega), drop_at l i hlt, List.flatMap_cons, ← List.append_assoc]
    have h := ihm (i + 1) (b ++ enc d l[i]) k (by omega) (by omega) (by rw [List.length_append]; omega)
    exact_mod_cast h
theorem put_is : ∀ (d : Nat) (n : S43) (b : List Int) (k : Nat), Ok d n → 1100 * d + 50 ≤ k → b.length + (enc d n).length < 140737488355328 → codec_put.f k b n.f0 n.f1 n.f2 n.f3 n.f4 = some (b ++ enc d n) := by
  intro d
  induction d with
  | zero => intro n b k h; exact h.elim
  | succ d ih =>
    intro n b k h hk hb
    obtain ⟨f0, f1, f2, f3, f4⟩ := n
    obtain ⟨⟨h0, h0'⟩, h⟩ := h
    obtain ⟨k, rfl⟩ : ∃ m, k = m + 1 := ⟨k - 1, by omega⟩
    simp only at h0 h0' h
    simp only [enc, List.length_append, List.length_singleton] at hb
    simp only [codec_put.f, enc]
    rw [wU (by omega) (by omega), putv_is h0 (by omega) (by omega) (by omega), Option.bind_some, Option.bind_some, if_pos (by simp only [List.length_append, List.length_singleton]; omega), Option.bind_some]
    rcases h with ⟨rfl, h2, rfl, rfl⟩ | ⟨rfl, rfl, h3, rfl⟩ | ⟨rfl, rfl, rfl, h4, hkk⟩
    · rw [if_pos rfl] at hb
      rw [if_pos rfl, if_pos rfl, zigzag_is h2.1 h2.2, Option.bind_some, putv_is (zz_range h2.1 h2.2).1 (zz_range h2.1 h2.2).2 (by omega) (by simp only [List.length_append, List.length_singleton]; omega), Option.bind_some]
      simp
    · rw [if_neg (by decide), if_pos rfl, List.length_append, bytesOf_len] at hb
      rw [if_neg (by decide), if_pos rfl, if_neg (by decide), if_pos rfl, wU (by omega) (by omega), putv_is (by omega) (by omega) (by omega) (by simp only [List.length_append, List.length_singleton]; omega), Option.bind_some, if_pos (by simp only [List.length_append, List.length_singleton]; omega)]
      simp
    · rw [if_neg (by decide), if_neg (by decide), List.length_append] at hb
      rw [if_neg (by decide), if_neg (by decide), if_neg (by decide), if_neg (by decide), wU (by omega) (by omega), putv_is (by omega) (by omega) (by omega) (by simp only [List.length_append, List.length_singleton]; omega), Option.bind_some]
      have h := put_l0 (d := d) (kk := 1100 * d + 50) f4 h4 (fun x hx b k hk hb => ih x b k (hkk x hx) hk hb) f4.length 0 (b ++ vi 9 f0 ++ [3 % 256] ++ vi 9 (f4.length : Int)) k (by omega) (by omega) (by simp only [List.length_append, List.length_singleton, List.drop_zero]; omega)
      rw [List.drop_zero] at h
      refine Eq.trans h (congrArg some ?_)
      simp

/-- the rules of the chapter: what can be encoded -/
def Fit (n : S43) : Prop := Ok 8 n ∧ (enc 8 n).length ≤ 1048576
theorem Encode_fit {k : Nat} {n : S43} (hw : Wf 8 n) (hk : 9000 ≤ k) (h : Fit n) : codec_Encode.f k n.f0 n.f1 n.f2 n.f3 n.f4 = some (enc 8 n, 0) := by
  have e := size_is 8 n k (by decide) hw (by omega)
  rw [szv_pos h.1 h.2] at e
  have h1 := h.2
  unfold codec_Encode.f
  rw [show (1 : Int) = 9 - ((8 : Nat) : Int) from by decide, e, Option.bind_some, if_neg (by omega), if_pos (by omega), if_pos (by omega), put_is 8 n [] k h.1 (by omega) (by simp only [List.length_nil]; omega), Option.bind_some, List.nil_append]
theorem Encode_not {k : Nat} {n : S43} (hw : Wf 8 n) (hk : 9000 ≤ k) (h : ¬ Fit n) : codec_Encode.f k n.f0 n.f1 n.f2 n.f3 n.f4 = some ([], 1) := by
  have e := size_is 8 n k (by decide) hw (by omega)
  rw [szv_neg (fun a b => h ⟨a, b⟩)] at e
  unfold codec_Encode.f
  rw [show (1 : Int) = 9 - ((8 : Nat) : Int) from by decide, e, Option.bind_some, if_pos (by decide)]
theorem Ok_Wf : ∀ (d : Nat) (n : S43), Ok d n → Wf d n := by
  intro d
  induction d with
  | zero => intro n h; exact h.elim
  | succ d ih =>
    rintro n ⟨_, ⟨_, h2, _, h4⟩ | ⟨_, h2, _, h4⟩ | ⟨_, h2, _, _, h4⟩⟩
    · exact ⟨h2, fun x hx => by rw [h4] at hx; cases hx⟩
    · exact ⟨by rw [h2]; decide, fun x hx => by rw [h4] at hx; cases hx⟩
    · exact ⟨by rw [h2]; decide, fun x hx => ih x (h4 x hx)⟩

end Go.Proofs.YteeggfnailpcpaaDoor.Cod

