/- Words of the kit's printer that this claim uses, cut to these by wip/trim.py. -/
import Derived.Test.YteeggfnailpcpaaDoorCodF
import Derived.Test.YteeggfnailpcpaaDoorQx6
namespace Go.Proofs.YteeggfnailpcpaaDoor.Cod
open Go.RowKit Go.Proofs.YteeggfnailpcpaaDoor.Q Go.Proofs.YteeggfnailpcpaaDoorW.PrintWords Go.Proofs.YteeggfnailpcpaaDoorW.PrintLast Go.Proofs.YteeggfnailpcpaaDoorW.PrintMore

/-- what may be read, and how it ends -/
def eff (B : List Int) : List Int := if B.length > 1048576 then B.take 1048576 else B
def fin (B : List Int) : Int := if B.length > 1048576 then 5 else 4
theorem eff_le (B : List Int) : (eff B).length ≤ 1048576 ∧ (eff B).length ≤ B.length := by
  unfold eff
  split
  · rw [List.length_take]; omega
  · omega
theorem eff_short {B : List Int} (h : B.length ≤ 1048576) : eff B = B ∧ fin B = 4 := by unfold eff fin; rw [if_neg (by omega), if_neg (by omega)]; exact ⟨rfl, rfl⟩
theorem eff_bytes {B : List Int} (h : Bytes B) : Bytes (eff B) := by
  unfold eff
  split
  · exact fun x hx => h x (List.mem_of_mem_take hx)
  · exact h
theorem fin_ne (B : List Int) : fin B ≠ 0 := by unfold fin; split <;> decide

/-- a result of the decoder (value, place, code) is one of the parser's -/
def Sim (B : List Int) (g : Int → Int) (r : Option (Int × Int × Int)) : Except Int (Int × List Int) → Prop
  | .error c => c ≠ 0 ∧ ∃ v p, r = some (v, p, c)
  | .ok (y, s) => ∃ p : Nat, r = some (g y, (p : Int), 0) ∧ p ≤ (eff B).length ∧ s = (eff B).drop p
theorem next_is (B : List Int) (hB : B.length < 4611686018427387904) (p : Nat) (hp : p ≤ (eff B).length) : Sim B id (codec_decoder_next.f B (p : Int)) (nx (fin B) ((eff B).drop p)) := by
  have he := eff_le B
  by_cases h : p < (eff B).length
  · have hlt : p < B.length := by omega
    have e1 : (eff B).drop p = B[p] :: (eff B).drop (p + 1) := by
      rw [List.drop_eq_getElem_cons h]
      congr 1
      unfold eff
      split
      · exact List.getElem_take
      · rfl
    have e2 : wrap64 (wrap64 ((p : Int) + 1) - 1) = p := by rw [w64 (i := (p : Int) + 1) (by omega) (by omega), w64 (by omega) (by omega)]; omega
    have e3 : rd B (p : Int) = B[p] := by unfold rd; simp [hlt]
    rw [e1]
    simp only [nx, Sim]
    refine ⟨p + 1, ?_, by omega, rfl⟩
    unfold codec_decoder_next.f
    rw [if_neg (by omega), if_neg (by omega), e2, if_pos (by omega), if_pos (by omega), e3, w64 (by omega) (by omega)]
    simp
  · have e : p = (eff B).length := by omega
    rw [List.drop_of_length_le (by omega)]
    simp only [nx, Sim]
    refine ⟨fin_ne B, 0, p, ?_⟩
    unfold codec_decoder_next.f
    by_cases hb : B.length > 1048576
    · have e4 : (eff B).length = 1048576 := by unfold eff; rw [if_pos hb, List.length_take]; omega
      unfold fin
      rw [if_pos (by omega), if_pos (by omega), if_pos hb]
    · have e4 : eff B = B := by unfold eff; rw [if_neg hb]
      unfold fin
      rw [e4] at e
      rw [if_neg hb]
      split
      · rw [if_neg (by omega), if_pos (by omega)]
      · rw [if_pos (by omega)]

theorem and127 {c : Int} (h0 : 0 ≤ c) (h1 : c < 256) : Go.bits .and .u8 c 127 = c % 128 := bits_mask .u8 8 (by decide) wraps_u8 7 (by decide) c h0 h1
theorem and1 {x : Int} (h0 : 0 ≤ x) (h1 : x < 18446744073709551616) : Go.bits .and .u64 x 1 = x % 2 := bits_mask .u64 64 (by decide) (fun n a b => wU a b) 1 (by decide) x h0 h1
theorem pow_split (i : Nat) : (2 : Int) ^ (7 * (i + 1)) = 2 ^ (7 * i) * 128 := by rw [show 7 * (i + 1) = 7 * i + 7 from by omega, Int.pow_add]; rfl
/-- one round's new number -/
theorem round_is {x c : Int} {i : Nat} (hi : i ≤ 9) (hx0 : 0 ≤ x) (hx : x < 2 ^ (7 * i)) (hc0 : 0 ≤ c) (hc1 : c < 256) (h9 : i = 9 → c ≤ 1) :
    Go.bits .or .u64 x (shl .u64 (IntKind.u64.wrap (Go.bits .and .u8 c 127)) (wrap64 (7 * (i : Int)))) = x + 2 ^ (7 * i) * (c % 128) := by
  have hp : (0 : Int) < 2 ^ (7 * i) := Int.pow_pos (by decide)
  have hup : (2 : Int) ^ (7 * i) * (c % 128) < 18446744073709551616 := by
    by_cases h : i = 9
    · have := h9 h
      subst h
      have e : (2 : Int) ^ (7 * 9) = 9223372036854775808 := by decide
      rw [e]
      omega
    · have e : (2 : Int) ^ (7 * i) ≤ 2 ^ 56 := by
        have : (2 : Nat) ^ (7 * i) ≤ 2 ^ 56 := Nat.pow_le_pow_right (by decide) (by omega)
        exact_mod_cast this
      have e2 : (2 : Int) ^ (7 * i) * (c % 128) ≤ 2 ^ 56 * 127 := Int.mul_le_mul e (by omega) (by omega) (by decide)
      have e3 : (2 : Int) ^ 56 * 127 < 18446744073709551616 := by decide
      omega
  have hnn : 0 ≤ (2 : Int) ^ (7 * i) * (c % 128) := Int.mul_nonneg (by omega) (by omega)
  have es : shl .u64 (c % 128) (7 * (i : Int)) = 2 ^ (7 * i) * (c % 128) := by
    unfold shl
    rw [show min (7 * (i : Int)).toNat IntKind.u64.bits = 7 * i from by simp [IntKind.bits]; omega, wU (by rw [Int.mul_comm]; exact hnn) (by rw [Int.mul_comm]; exact hup), Int.mul_comm]
  rw [and127 hc0 hc1, wU (by omega) (by omega), w64 (by omega) (by omega), es, or_comm, orU (i := 7 * i) (by omega) hnn (by simp) hup hx0 hx]
  omega
theorem varint_l0 (B : List Int) (hB : B.length < 4611686018427387904) (hb : Bytes B) : ∀ (j i p k : Nat) (x : Int), i + (j + 1) = 10 → p ≤ (eff B).length → 2 * j + 3 ≤ k → 0 ≤ x → x < 2 ^ (7 * i) →
    Sim B (fun y => x + 2 ^ (7 * i) * y) (codec_decoder_varint.l0 k x (i : Int) B (p : Int)) (rv (fin B) (j + 1) (decide (i = 0)) ((eff B).drop p)) := by
  intro j
  induction j with
  | zero =>
    intro i p k x hi hp hk h0 h1
    obtain ⟨k, rfl⟩ : ∃ m, k = m + 2 := ⟨k - 2, by omega⟩
    obtain rfl : i = 9 := by omega
    have hn := next_is B hB p hp
    simp only [codec_decoder_varint.l0, codec_decoder_varint.j1, rv]
    rw [if_pos (by decide)]
    cases e : nx (fin B) ((eff B).drop p) with
    | error c =>
      rw [e] at hn
      obtain ⟨hc, v, q, hr⟩ := hn
      simp only [hr, Option.bind_some, bd]
      rw [if_neg hc]
      exact ⟨hc, 0, q, rfl⟩
    | ok y =>
      obtain ⟨c, s⟩ := y
      rw [e] at hn
      obtain ⟨q, hr, hq, hs⟩ := hn
      have hcb : 0 ≤ c ∧ c < 256 := by
        have := eff_bytes hb c (List.mem_of_mem_drop (by rw [nx_ok e]; exact List.mem_cons_self ..))
        exact this
      simp only [hr, Option.bind_some, bd, id_eq]
      rw [if_pos trivial, if_pos (by decide)]
      by_cases h2 : c > 1
      · rw [if_pos h2, if_pos trivial, if_pos (.inl ⟨trivial, h2⟩)]
        exact ⟨by decide, 0, q, rfl⟩
      · rw [if_neg h2]
        by_cases h3 : c = 0
        · rw [if_pos h3, if_pos (by decide), if_pos (.inr ⟨h3, by decide⟩)]
          exact ⟨by decide, 0, q, rfl⟩
        · have hnn : ¬ (True ∧ c > 1 ∨ c = 0 ∧ decide (9 = 0) = false) := by rintro (⟨_, h⟩ | ⟨h, _⟩) <;> contradiction
          rw [if_neg h3, if_neg (by decide), if_pos (by rw [w64 (by omega) (by omega)]; omega), if_pos (by omega), if_neg hnn, if_pos (by omega)]
          have er := round_is (x := x) (c := c) (i := 9) (by decide) h0 h1 hcb.1 hcb.2 (fun _ => by omega)
          refine ⟨q, ?_, hq, hs⟩
          rw [show c % 128 = c from by omega] at er
          exact congrArg (fun z => some (z, (q : Int), (0 : Int))) er
  | succ j ih =>
    intro i p k x hi hp hk h0 h1
    obtain ⟨k, rfl⟩ : ∃ m, k = m + 2 := ⟨k - 2, by omega⟩
    have hn := next_is B hB p hp
    rw [rv]
    simp only [codec_decoder_varint.l0, codec_decoder_varint.j1]
    rw [if_pos (by omega)]
    cases e : nx (fin B) ((eff B).drop p) with
    | error c =>
      rw [e] at hn
      obtain ⟨hc, v, q, hr⟩ := hn
      simp only [hr, Option.bind_some, bd]
      rw [if_neg hc]
      exact ⟨hc, 0, q, rfl⟩
    | ok y =>
      obtain ⟨c, s⟩ := y
      rw [e] at hn
      obtain ⟨q, hr, hq, hs⟩ := hn
      have hcb : 0 ≤ c ∧ c < 256 := by
        have := eff_bytes hb c (List.mem_of_mem_drop (by rw [nx_ok e]; exact List.mem_cons_self ..))
        exact this
      simp only [hr, Option.bind_some, bd, id_eq]
      rw [if_pos trivial, if_neg (by omega)]
      have er := round_is (x := x) (c := c) (i := i) (by omega) h0 h1 hcb.1 hcb.2 (fun h => by omega)
      have go : ¬ (c = 0 ∧ decide (i = 0) = false) → Sim B (fun y => x + 2 ^ (7 * i) * y) (if 0 ≤ (wrap64 (7 * (i : Int))) then (if c < 128 then (some (Go.bits .or .u64 x (shl .u64 (IntKind.u64.wrap (Go.bits .and .u8 c 127)) (wrap64 (7 * (i : Int)))), (q : Int), 0)) else (codec_decoder_varint.l0 k (Go.bits .or .u64 x (shl .u64 (IntKind.u64.wrap (Go.bits .and .u8 c 127)) (wrap64 (7 * (i : Int))))) (wrap64 ((i : Int) + 1)) B (q : Int))) else (none))
          (if c < 128 then .ok (c, s) else bd (rv (fin B) (j + 1) false s) fun y t => .ok (c - 128 + 128 * y, t)) := by
        intro _
        rw [if_pos (by rw [w64 (by omega) (by omega)]; omega)]
        by_cases h3 : c < 128
        · rw [if_pos h3, if_pos h3, er]
          exact ⟨q, by rw [show c % 128 = c from by omega], hq, hs⟩
        · rw [if_neg h3, if_neg h3, er, w64 (by omega) (by omega)]
          have hx2 : x + 2 ^ (7 * i) * (c % 128) < 2 ^ (7 * (i + 1)) := by
            rw [pow_split]
            have : (2 : Int) ^ (7 * i) * (c % 128) ≤ 2 ^ (7 * i) * 127 := Int.mul_le_mul_of_nonneg_left (by omega) (Int.le_of_lt (Int.pow_pos (by decide)))
            omega
          have h := ih (i + 1) q k (x + 2 ^ (7 * i) * (c % 128)) (by omega) hq (by omega) (Int.add_nonneg h0 (Int.mul_nonneg (Int.le_of_lt (Int.pow_pos (by decide))) (by omega))) hx2
          rw [show decide (i + 1 = 0) = false from by simp, ← hs, show ((i + 1 : Nat) : Int) = (i : Int) + 1 from by omega] at h
          cases e2 : rv (fin B) (j + 1) false s with
          | error c' =>
            rw [e2] at h
            exact h
          | ok y =>
            obtain ⟨y, t⟩ := y
            rw [e2] at h
            obtain ⟨q2, hr2, hq2, hs2⟩ := h
            refine ⟨q2, ?_, hq2, hs2⟩
            rw [hr2]
            refine congrArg (fun z => some (z, (q2 : Int), (0 : Int))) ?_
            show x + 2 ^ (7 * i) * (c % 128) + 2 ^ (7 * (i + 1)) * y = x + 2 ^ (7 * i) * (c - 128 + 128 * y)
            rw [pow_split, show c - 128 + 128 * y = c % 128 + 128 * y from by omega, Int.mul_add, ← Int.mul_assoc]
            omega
      by_cases h0c : c = 0
      · rw [if_pos h0c]
        by_cases hi0 : i = 0
        · have hnn : ¬ (j + 1 = 0 ∧ c > 1 ∨ c = 0 ∧ decide (i = 0) = false) := by rintro (⟨h, _⟩ | ⟨_, h⟩) <;> simp_all
          rw [if_neg (by simp only [decide_eq_true_eq]; omega), if_neg hnn]
          exact go (by simp [hi0])
        · rw [if_pos (by simp only [decide_eq_true_eq]; omega), if_pos (.inr ⟨h0c, by simp [hi0]⟩)]
          exact ⟨by decide, 0, q, rfl⟩
      · have hnn : ¬ (j + 1 = 0 ∧ c > 1 ∨ c = 0 ∧ decide (i = 0) = false) := by rintro (⟨h, _⟩ | ⟨h, _⟩); omega; exact h0c h
        rw [if_neg h0c, if_neg (by decide), if_neg hnn]
        exact go (fun h => h0c h.1)
theorem varint_is (B : List Int) (hB : B.length < 4611686018427387904) (hb : Bytes B) {p k : Nat} (hp : p ≤ (eff B).length) (hk : 30 ≤ k) :
    Sim B id (codec_decoder_varint.f k B (p : Int)) (rv (fin B) 10 true ((eff B).drop p)) := by
  have h := varint_l0 B hB hb 9 0 p k 0 (by omega) hp (by omega) (by decide) (by decide)
  unfold codec_decoder_varint.f
  cases e : rv (fin B) 10 true ((eff B).drop p) with
  | error c => rw [show decide (0 = 0) = true from rfl, e] at h; exact h
  | ok y =>
    rw [show decide (0 = 0) = true from rfl, e] at h
    obtain ⟨q, hr, hq, hs⟩ := h
    refine ⟨q, ?_, hq, hs⟩
    rw [show (codec_decoder_varint.l0 k 0 0 B (p : Int)) = _ from hr]
    simp
theorem limited_is (B : List Int) (hB : B.length < 4611686018427387904) (hb : Bytes B) {p k : Nat} (hp : p ≤ (eff B).length) (hk : 30 ≤ k) (most code : Int) (hm : most < 9223372036854775808) (hc : code ≠ 0) :
    Sim B id (codec_decoder_limited.f k B (p : Int) most code) (lm (fin B) most code ((eff B).drop p)) := by
  have h := varint_is B hB hb hp hk
  unfold codec_decoder_limited.f lm
  cases e : rv (fin B) 10 true ((eff B).drop p) with
  | error c =>
    rw [e] at h
    obtain ⟨h1, v, q, hr⟩ := h
    simp only [hr, Option.bind_some, bd]
    rw [if_neg h1]
    exact ⟨h1, 0, q, rfl⟩
  | ok y =>
    obtain ⟨y, s⟩ := y
    have hy := rv_acc (s := (eff B).drop p) (fun x hx => eff_bytes hb x (List.mem_of_mem_drop hx)) e
    rw [e] at h
    obtain ⟨q, hr, hq, hs⟩ := h
    simp only [hr, Option.bind_some, bd, id_eq]
    rw [if_pos trivial]
    by_cases hl : y > most
    · rw [if_pos hl, if_pos hl, if_neg hc]
      exact ⟨hc, 0, q, rfl⟩
    · rw [if_neg hl, if_neg hl, w64 (by omega) (by omega)]
      exact ⟨q, rfl, hq, hs⟩

abbrev R7 := Int × Int × Int × ByteArray × (List (S43)) × Int × Int
def SimN (B : List Int) (r : Option R7) : Except Int (S43 × List Int) → Prop
  | .error c => c ≠ 0 ∧ ∃ a b e f g p, r = some (a, b, e, f, g, p, c)
  | .ok (n, s) => ∃ p : Nat, r = some (n.f0, n.f1, n.f2, n.f3, n.f4, (p : Int), 0) ∧ p ≤ (eff B).length ∧ s = (eff B).drop p
theorem text_l0 (B : List Int) (hB : B.length < 4611686018427387904) (size : Nat) (hs : size ≤ 2000) (tag kind n : Int) (t : ByteArray) : ∀ (m i p k : Nat) (acc : List Int), i + m = size → acc.length = i → p ≤ (eff B).length → m + 1 ≤ k →
    SimN B (codec_decoder_node.l0 k acc (size : Int) (i : Int) B (p : Int) tag kind n t) (bd (pk (nx (fin B)) m ((eff B).drop p)) fun l s => .ok (⟨tag, kind, n, strOfNums (acc ++ l), []⟩, s)) := by
  intro m
  induction m with
  | zero =>
    intro i p k acc hi ha hp hk
    obtain ⟨k, rfl⟩ : ∃ m, k = m + 1 := ⟨k - 1, by omega⟩
    simp only [codec_decoder_node.l0, pk, bd, List.append_nil]
    rw [if_neg (by omega)]
    exact ⟨p, rfl, hp, rfl⟩
  | succ m ih =>
    intro i p k acc hi ha hp hk
    obtain ⟨k, rfl⟩ : ∃ m, k = m + 1 := ⟨k - 1, by omega⟩
    have hn := next_is B hB p hp
    simp only [codec_decoder_node.l0, pk]
    rw [if_pos (by omega)]
    cases e : nx (fin B) ((eff B).drop p) with
    | error c =>
      rw [e] at hn
      obtain ⟨hc, v, q, hr⟩ := hn
      simp only [hr, Option.bind_some, bd]
      rw [if_neg hc]
      exact ⟨hc, _, _, _, _, _, _, rfl⟩
    | ok y =>
      obtain ⟨c, s⟩ := y
      rw [e] at hn
      obtain ⟨q, hr, hq, hs'⟩ := hn
      simp only [hr, Option.bind_some, id_eq]
      rw [if_pos trivial, if_pos (by omega), w64 (by omega) (by omega)]
      have h := ih (i + 1) q k (acc ++ [c]) (by omega) (by rw [List.length_append, List.length_singleton, ha]) hq (by omega)
      rw [← hs', show ((i + 1 : Nat) : Int) = (i : Int) + 1 from by omega] at h
      cases e2 : pk (nx (fin B)) m s with
      | error c' => rw [e2] at h; simp only [bd, e2]; exact h
      | ok y =>
        rw [e2] at h
        obtain ⟨l, u⟩ := y
        simp only [bd, List.append_assoc, List.cons_append, List.nil_append] at h
        simp only [bd, e2]
        exact h
theorem kids_l1 (B : List Int) (d kk : Nat) (lv : Int) (hlv : wrap64 (lv + 1) = 9 - (d : Int)) (count : Nat) (hs : count ≤ 1024) (tag kind n : Int) (t : ByteArray)
    (ihd : ∀ (p k : Nat), p ≤ (eff B).length → kk ≤ k → SimN B (codec_decoder_node.f k B (p : Int) (9 - (d : Int))) (pn (fin B) d ((eff B).drop p))) :
    ∀ (m i p k : Nat) (acc : List S43), i + m = count → acc.length = i → p ≤ (eff B).length → kk + m + 1 ≤ k →
    SimN B (codec_decoder_node.l1 k lv (count : Int) (i : Int) B (p : Int) tag kind n t acc) (bd (pk (pn (fin B) d) m ((eff B).drop p)) fun l s => .ok (⟨tag, kind, n, t, acc ++ l⟩, s)) := by
  intro m
  induction m with
  | zero =>
    intro i p k acc hi ha hp hk
    obtain ⟨k, rfl⟩ : ∃ m, k = m + 1 := ⟨k - 1, by omega⟩
    simp only [codec_decoder_node.l1, pk, bd, List.append_nil]
    rw [if_neg (by omega)]
    exact ⟨p, rfl, hp, rfl⟩
  | succ m ih =>
    intro i p k acc hi ha hp hk
    obtain ⟨k, rfl⟩ : ∃ m, k = m + 1 := ⟨k - 1, by omega⟩
    have hn := ihd p k hp (by omega)
    simp only [codec_decoder_node.l1, pk]
    rw [if_pos (by omega), hlv]
    cases e : pn (fin B) d ((eff B).drop p) with
    | error c =>
      rw [e] at hn
      obtain ⟨hc, a1, a2, a3, a4, a5, q, hr⟩ := hn
      simp only [hr, Option.bind_some, bd]
      rw [if_neg hc]
      exact ⟨hc, _, _, _, _, _, _, rfl⟩
    | ok y =>
      obtain ⟨c, s⟩ := y
      rw [e] at hn
      obtain ⟨q, hr, hq, hs'⟩ := hn
      simp only [hr, Option.bind_some]
      rw [if_pos trivial, if_pos (by omega), w64 (by omega) (by omega), show (⟨c.f0, c.f1, c.f2, c.f3, c.f4⟩ : S43) = c from by cases c; rfl]
      have h := ih (i + 1) q k (acc ++ [c]) (by omega) (by rw [List.length_append, List.length_singleton, ha]) hq (by omega)
      rw [← hs', show ((i + 1 : Nat) : Int) = (i : Int) + 1 from by omega] at h
      cases e2 : pk (pn (fin B) d) m s with
      | error c' => rw [e2] at h; simp only [bd, e2]; exact h
      | ok y =>
        rw [e2] at h
        obtain ⟨l, u⟩ := y
        simp only [bd, List.append_assoc, List.cons_append, List.nil_append] at h
        simp only [bd, e2]
        exact h
theorem node_is (B : List Int) (hB : B.length < 4611686018427387904) (hb : Bytes B) : ∀ (d p k : Nat), d ≤ 8 → p ≤ (eff B).length → 2200 * d + 50 ≤ k →
    SimN B (codec_decoder_node.f k B (p : Int) (9 - (d : Int))) (pn (fin B) d ((eff B).drop p)) := by
  intro d
  induction d with
  | zero =>
    intro p k _ hp hk
    obtain ⟨k, rfl⟩ : ∃ m, k = m + 1 := ⟨k - 1, by omega⟩
    simp only [codec_decoder_node.f, pn]
    rw [if_pos (by decide)]
    exact ⟨by decide, _, _, _, _, _, _, rfl⟩
  | succ d ih =>
    intro p k hd hp hk
    obtain ⟨k, rfl⟩ : ∃ m, k = m + 1 := ⟨k - 1, by omega⟩
    simp only [codec_decoder_node.f, pn]
    rw [if_neg (by omega)]
    have h1 := limited_is B hB hb (p := p) (k := k) hp (by omega) 9999999 3 (by decide) (by decide)
    cases e1 : lm (fin B) 9999999 3 ((eff B).drop p) with
    | error c =>
      rw [e1] at h1
      obtain ⟨hc, v, q, hr⟩ := h1
      simp only [hr, Option.bind_some, bd]
      rw [if_neg hc]
      exact ⟨hc, _, _, _, _, _, _, rfl⟩
    | ok y =>
    obtain ⟨tag, s1⟩ := y
    rw [e1] at h1
    obtain ⟨q1, hr1, hq1, hs1⟩ := h1
    simp only [hr1, Option.bind_some, bd, id_eq]
    rw [if_pos trivial]
    have h2 := next_is B hB q1 hq1
    rw [← hs1] at h2
    cases e2 : nx (fin B) s1 with
    | error c =>
      rw [e2] at h2
      obtain ⟨hc, v, q, hr⟩ := h2
      simp only [hr, Option.bind_some]
      rw [if_neg hc]
      exact ⟨hc, _, _, _, _, _, _, rfl⟩
    | ok y =>
    obtain ⟨kind, s2⟩ := y
    rw [e2] at h2
    obtain ⟨q2, hr2, hq2, hs2⟩ := h2
    have hkb : 0 ≤ kind ∧ kind < 256 := by
      have : kind ∈ s1 := by rw [nx_ok e2]; exact List.mem_cons_self ..
      rw [hs1] at this
      exact eff_bytes hb kind (List.mem_of_mem_drop this)
    simp only [hr2, Option.bind_some, id_eq]
    rw [if_pos trivial, w64 (i := kind) (by omega) (by omega)]
    by_cases k1 : kind = 1
    · subst k1
      rw [if_pos rfl, if_pos rfl]
      have h3 := varint_is B hB hb (p := q2) (k := k) hq2 (by omega)
      rw [← hs2] at h3
      cases e3 : rv (fin B) 10 true s2 with
      | error c =>
        rw [e3] at h3
        obtain ⟨hc, v, q, hr⟩ := h3
        simp only [hr, Option.bind_some]
        rw [if_neg hc]
        exact ⟨hc, _, _, _, _, _, _, rfl⟩
      | ok y =>
      obtain ⟨x, s3⟩ := y
      have hx := rv_acc (s := s2) (by rw [hs2]; exact fun x hx => eff_bytes hb x (List.mem_of_mem_drop hx)) e3
      rw [e3] at h3
      obtain ⟨q3, hr3, hq3, hs3⟩ := h3
      simp only [hr3, Option.bind_some, id_eq]
      rw [if_pos trivial, and1 hx.2.1 hx.2.2]
      refine ⟨q3, ?_, hq3, hs3⟩
      unfold uz
      by_cases hodd : x % 2 = 1
      · rw [if_pos hodd, if_pos hodd, w64 (i := x / 2) (by omega) (by omega), w64 (i := -(x / 2)) (by omega) (by omega), w64 (by omega) (by omega)]
        rfl
      · rw [if_neg hodd, if_neg hodd, w64 (i := x / 2) (by omega) (by omega)]
        rfl
    rw [if_neg k1, if_neg k1]
    by_cases k2 : kind = 2
    · subst k2
      rw [if_pos rfl, if_pos rfl]
      have h3 := limited_is B hB hb (p := q2) (k := k) hq2 (by omega) 2000 5 (by decide) (by decide)
      rw [← hs2] at h3
      cases e3 : lm (fin B) 2000 5 s2 with
      | error c =>
        rw [e3] at h3
        obtain ⟨hc, v, q, hr⟩ := h3
        simp only [hr, Option.bind_some]
        rw [if_neg hc]
        exact ⟨hc, _, _, _, _, _, _, rfl⟩
      | ok y =>
      obtain ⟨x, s3⟩ := y
      have hx := lm_acc (s := s2) (by rw [hs2]; exact fun x hx => eff_bytes hb x (List.mem_of_mem_drop hx)) e3
      rw [e3] at h3
      obtain ⟨q3, hr3, hq3, hs3⟩ := h3
      simp only [hr3, Option.bind_some, id_eq]
      rw [if_pos trivial, if_pos hx.2.1, if_pos (by omega)]
      have h4 := text_l0 B hB x.toNat (by omega) tag 2 0 nul x.toNat 0 q3 k [] (by omega) rfl hq3 (by omega)
      rw [← hs3, show ((x.toNat : Nat) : Int) = x from by omega] at h4
      exact h4
    rw [if_neg k2, if_neg k2]
    by_cases k3 : kind = 3
    · subst k3
      rw [if_pos rfl, if_pos rfl]
      have h3 := limited_is B hB hb (p := q2) (k := k) hq2 (by omega) 1024 5 (by decide) (by decide)
      rw [← hs2] at h3
      cases e3 : lm (fin B) 1024 5 s2 with
      | error c =>
        rw [e3] at h3
        obtain ⟨hc, v, q, hr⟩ := h3
        simp only [hr, Option.bind_some]
        rw [if_neg hc]
        exact ⟨hc, _, _, _, _, _, _, rfl⟩
      | ok y =>
      obtain ⟨x, s3⟩ := y
      have hx := lm_acc (s := s2) (by rw [hs2]; exact fun x hx => eff_bytes hb x (List.mem_of_mem_drop hx)) e3
      rw [e3] at h3
      obtain ⟨q3, hr3, hq3, hs3⟩ := h3
      simp only [hr3, Option.bind_some, id_eq]
      rw [if_pos trivial]
      have h4 := kids_l1 B d (2200 * d + 50) (9 - ((d + 1 : Nat) : Int)) (by rw [w64 (by omega) (by omega)]; omega) x.toNat (by omega) tag 3 0 nul (fun p k hp hk => ih p k (by omega) hp hk) x.toNat 0 q3 k [] (by omega) rfl hq3 (by omega)
      rw [← hs3, show ((x.toNat : Nat) : Int) = x from by omega] at h4
      exact h4
    rw [if_neg k3, if_neg k3]
    exact ⟨by decide, _, _, _, _, _, _, rfl⟩
/-- Decode: the parser on what may be read. -/
theorem Decode_is {B : List Int} {k : Nat} (hB : B.length < 4611686018427387904) (hb : Bytes B) (hk : 20000 ≤ k) :
    match pn (fin B) 8 (eff B) with
    | .error c => c ≠ 0 ∧ codec_Decode.f k B = some (0, 0, 0, nul, [], 0, c)
    | .ok (n, s) => codec_Decode.f k B = some (n.f0, n.f1, n.f2, n.f3, n.f4, ((eff B).length : Int) - (s.length : Int), 0) ∧ s.length ≤ (eff B).length := by
  have h := node_is B hB hb 8 0 k (by decide) (by omega) (by omega)
  rw [List.drop_zero] at h
  unfold codec_Decode.f
  rw [show (1 : Int) = 9 - ((8 : Nat) : Int) from by decide]
  cases e : pn (fin B) 8 (eff B) with
  | error c =>
    rw [e] at h
    obtain ⟨hc, a1, a2, a3, a4, a5, q, hr⟩ := h
    refine ⟨hc, ?_⟩
    rw [show codec_decoder_node.f k B 0 (9 - ((8 : Nat) : Int)) = _ from hr]
    simp only [Option.bind_some]
    rw [if_neg hc]
    rfl
  | ok y =>
    obtain ⟨n, s⟩ := y
    rw [e] at h
    obtain ⟨q, hr, hq, hs⟩ := h
    have hl : s.length = (eff B).length - q := by rw [hs, List.length_drop]
    refine ⟨?_, by omega⟩
    rw [show codec_decoder_node.f k B 0 (9 - ((8 : Nat) : Int)) = _ from hr]
    simp only [Option.bind_some]
    rw [if_pos trivial, show ((eff B).length : Int) - (s.length : Int) = (q : Int) from by omega]
end Go.Proofs.YteeggfnailpcpaaDoor.Cod

