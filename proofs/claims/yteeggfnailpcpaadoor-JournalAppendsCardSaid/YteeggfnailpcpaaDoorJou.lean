/- Words of the kit's printer that this claim uses, cut to these by wip/trim.py. -/
import Derived.Test.YteeggfnailpcpaaDoorCodD
import Derived.Test.YteeggfnailpcpaaDoorDig
namespace Go.Proofs.YteeggfnailpcpaaDoor.Jou
open Go.RowKit Go.Proofs.YteeggfnailpcpaaDoor.Q
open Go.Proofs.YteeggfnailpcpaaDoor.Cod (Bytes pn enc Ok pn_enc pn_acc enc_bytes bytes_append)
open Go.Proofs.YteeggfnailpcpaaDoor.Dig (be8 addB iv bv U64 be8_length be8_bytes addB_append iv_u64 bv_iv iv_bv)

def num (b : List Int) : Int := b.foldl (fun x c => x * 256 + c) 0
def b4 (n : Int) : List Int := [n / 2 ^ 24 % 256, n / 2 ^ 16 % 256, n / 2 ^ 8 % 256, n % 256]
theorem num_snoc (l : List Int) (c : Int) : num (l ++ [c]) = num l * 256 + c := by unfold num; rw [List.foldl_append]; rfl
theorem num_bound : ∀ (m : Nat) (l : List Int), l.length = m → Bytes l → 0 ≤ num l ∧ num l < 256 ^ m := by
  intro m
  induction m with
  | zero => intro l h _; rw [List.eq_nil_of_length_eq_zero h]; decide
  | succ m ih =>
    intro l h hb
    have hne : l ≠ [] := by intro e; rw [e] at h; simp at h
    obtain ⟨s, c, rfl⟩ : ∃ s c, l = s ++ [c] := ⟨l.dropLast, l.getLast hne, (List.dropLast_concat_getLast hne).symm⟩
    obtain ⟨h1, h2⟩ := bytes_append.1 hb
    have hc := h2 c (by simp)
    have e := ih s (by simpa using h) h1
    rw [num_snoc, Int.pow_succ]
    omega
theorem num4 (a b c d : Int) : num [a, b, c, d] = ((a * 256 + b) * 256 + c) * 256 + d := by simp [num]
theorem num8 (a b c d e f g h : Int) : num [a, b, c, d, e, f, g, h] = ((((((a * 256 + b) * 256 + c) * 256 + d) * 256 + e) * 256 + f) * 256 + g) * 256 + h := by simp [num]
theorem num_b4 {n : Int} (h0 : 0 ≤ n) (h1 : n < 4294967296) : num (b4 n) = n := by
  unfold b4
  rw [num4, show (2 : Int) ^ 24 = 16777216 from by decide, show (2 : Int) ^ 16 = 65536 from by decide, show (2 : Int) ^ 8 = 256 from by decide]
  omega
theorem num_be8 {n : Int} (h : U64 n) : num (be8 n) = n := by
  obtain ⟨h0, h1⟩ := h
  unfold be8
  rw [num8, show (2 : Int) ^ 56 = 72057594037927936 from by decide, show (2 : Int) ^ 48 = 281474976710656 from by decide, show (2 : Int) ^ 40 = 1099511627776 from by decide, show (2 : Int) ^ 32 = 4294967296 from by decide, show (2 : Int) ^ 24 = 16777216 from by decide, show (2 : Int) ^ 16 = 65536 from by decide, show (2 : Int) ^ 8 = 256 from by decide]
  omega
theorem b4_bytes (n : Int) : Bytes (b4 n) := by
  intro x hx
  simp only [b4, List.mem_cons, List.not_mem_nil, or_false] at hx
  rcases hx with rfl | rfl | rfl | rfl <;> exact ⟨Int.emod_nonneg _ (by decide), Int.emod_lt_of_pos _ (by decide)⟩

def chain (d : Int) (b : List Int) : Int := iv (addB Dig.start (be8 d ++ b))
theorem chain_u64 (d : Int) (b : List Int) : U64 (chain d b) := iv_u64 _
def ent (b : List Int) (d : Int) : Except Int (S43 × Nat × Int) :=
  if b.length < 4 then .error 4
  else if num (b.take 4) > 2000 then .error 5
  else if b.length < 4 + (num (b.take 4)).toNat + 8 then .error 4
  else if chain d (b.take (4 + (num (b.take 4)).toNat)) = num ((b.take (4 + (num (b.take 4)).toNat + 8)).drop (4 + (num (b.take 4)).toNat)) then
    match pn 4 8 ((b.take (4 + (num (b.take 4)).toNat)).drop 4) with
    | .error _ => .error 2
    | .ok (n, s) => if s = [] then .ok (n, 4 + (num (b.take 4)).toNat + 8, chain d (b.take (4 + (num (b.take 4)).toNat))) else .error 2
  else .error 12
/-- What an accepted entry is. -/
theorem ent_ok {b : List Int} {d : Int} {n : S43} {m : Nat} {d' : Int} (h : ent b d = .ok (n, m, d')) :
    4 ≤ b.length ∧ num (b.take 4) ≤ 2000 ∧ m = 4 + (num (b.take 4)).toNat + 8 ∧ m ≤ b.length ∧ d' = chain d (b.take (m - 8)) ∧ d' = num ((b.take m).drop (m - 8)) ∧ pn 4 8 ((b.take (m - 8)).drop 4) = .ok (n, []) := by
  unfold ent at h
  split at h
  · cases h
  rename_i h1
  split at h
  · cases h
  rename_i h2
  split at h
  · cases h
  rename_i h3
  split at h
  · rename_i h4
    split at h
    · cases h
    rename_i x y hp
    split at h
    · rename_i hs
      obtain ⟨rfl, rfl, rfl⟩ : x = n ∧ 4 + (num (b.take 4)).toNat + 8 = m ∧ chain d (b.take (4 + (num (b.take 4)).toNat)) = d' := by
        injection h with h
        injection h with e1 h
        injection h with e2 e3
        exact ⟨e1, e2, e3⟩
      subst hs
      refine ⟨by omega, by omega, rfl, by omega, ?_, ?_, ?_⟩
      · rw [Nat.add_sub_cancel]
      · rw [Nat.add_sub_cancel]; exact h4
      · rw [Nat.add_sub_cancel]; exact hp
    · cases h
  · cases h
theorem ent_mk {b : List Int} {d : Int} {n : S43} {m : Nat} (h1 : 4 ≤ b.length) (h2 : num (b.take 4) ≤ 2000) (h3 : m = 4 + (num (b.take 4)).toNat + 8) (h4 : m ≤ b.length) (h5 : chain d (b.take (m - 8)) = num ((b.take m).drop (m - 8)))
    (h6 : pn 4 8 ((b.take (m - 8)).drop 4) = .ok (n, [])) : ent b d = .ok (n, m, chain d (b.take (m - 8))) := by
  subst h3
  rw [Nat.add_sub_cancel] at h5 h6 ⊢
  unfold ent
  rw [if_neg (by omega), if_neg (by omega), if_neg (by omega), if_pos h5, h6]
  exact if_pos rfl
theorem ent_err {b : List Int} {d c : Int} (h : ent b d = .error c) : c = 4 ∨ c = 5 ∨ c = 12 ∨ c = 2 := by
  unfold ent at h
  split at h
  · injection h with h; omega
  split at h
  · injection h with h; omega
  split at h
  · injection h with h; omega
  split at h
  · split at h
    · injection h with h; omega
    · split at h
      · cases h
      · injection h with h; omega
  · injection h with h; omega
theorem ent_pos {b : List Int} {d : Int} {n : S43} {m : Nat} {d' : Int} (h : ent b d = .ok (n, m, d')) : 12 ≤ m ∧ m ≤ b.length ∧ m ≤ 2012 := by
  obtain ⟨h1, h2, h3, h4, _⟩ := ent_ok h
  omega
theorem ent_node {b : List Int} {d : Int} {n : S43} {m : Nat} {d' : Int} (hb : Bytes b) (h : ent b d = .ok (n, m, d')) : Ok 8 n := by
  obtain ⟨_, _, _, _, _, _, h7⟩ := ent_ok h
  exact (pn_acc 4 8 _ n [] (fun x hx => hb x (List.mem_of_mem_take (List.mem_of_mem_drop hx))) h7).2

def jr : Nat → List Int → Int → List S43 × Nat × Int × Option Int
  | 0, b, d => if b = [] then ([], 0, d, none) else ([], 0, d, some 5)
  | c + 1, b, d => if b = [] then ([], 0, d, none) else
    match ent b d with
    | .error e => ([], 0, d, some e)
    | .ok (n, m, d') => (n :: (jr c (b.drop m) d').1, m + (jr c (b.drop m) d').2.1, (jr c (b.drop m) d').2.2.1, (jr c (b.drop m) d').2.2.2)
theorem jr_nil (c : Nat) (d : Int) : jr c [] d = ([], 0, d, none) := by cases c <;> simp [jr]
theorem jr_err {c : Nat} {b : List Int} {d e : Int} (h0 : b ≠ []) (h : ent b d = .error e) : jr (c + 1) b d = ([], 0, d, some e) := by rw [jr, if_neg h0, h]
theorem jr_ok {c : Nat} {b : List Int} {d : Int} {n : S43} {m : Nat} {d' : Int} (h : ent b d = .ok (n, m, d')) :
    jr (c + 1) b d = (n :: (jr c (b.drop m) d').1, m + (jr c (b.drop m) d').2.1, (jr c (b.drop m) d').2.2.1, (jr c (b.drop m) d').2.2.2) := by
  have hp := ent_pos h
  rw [jr, if_neg (by intro e; rw [e] at hp; simp at hp; omega), h]
theorem jr_props : ∀ (c : Nat) (b : List Int) (d : Int), U64 d → (jr c b d).1.length ≤ c ∧ (jr c b d).2.1 ≤ b.length ∧ (jr c b d).2.1 ≤ 2012 * (jr c b d).1.length ∧ U64 (jr c b d).2.2.1 ∧
    ((jr c b d).2.2.2 = none ↔ (jr c b d).2.1 = b.length) ∧ (∀ e, (jr c b d).2.2.2 = some e → e = 4 ∨ e = 5 ∨ e = 12 ∨ e = 2) ∧ (Bytes b → ∀ n ∈ (jr c b d).1, Ok 8 n) := by
  intro c
  induction c with
  | zero =>
    intro b d hd
    by_cases h : b = []
    · rw [h, jr_nil]
      exact ⟨Nat.le_refl _, Nat.le_refl _, by simp, hd, by simp, fun e h => (by cases h), fun _ n hn => by cases hn⟩
    · rw [jr, if_neg h]
      have : b.length ≠ 0 := fun e => h (List.eq_nil_of_length_eq_zero e)
      exact ⟨Nat.le_refl _, Nat.zero_le _, by simp, hd, ⟨fun h => (by cases h), fun h => absurd h.symm this⟩, fun e h => by injection h with h; omega, fun _ n hn => by cases hn⟩
  | succ c ih =>
    intro b d hd
    by_cases h : b = []
    · rw [h, jr_nil]
      exact ⟨Nat.zero_le _, Nat.le_refl _, by simp, hd, by simp, fun e h => (by cases h), fun _ n hn => by cases hn⟩
    have hne : b.length ≠ 0 := fun e => h (List.eq_nil_of_length_eq_zero e)
    cases e : ent b d with
    | error x =>
      rw [jr_err h e]
      exact ⟨Nat.zero_le _, Nat.zero_le _, by simp, hd, ⟨fun h => (by cases h), fun h => absurd h.symm hne⟩, fun y hy => by injection hy with hy; subst hy; exact ent_err e, fun _ n hn => by cases hn⟩
    | ok y =>
      obtain ⟨n, m, d'⟩ := y
      have hp := ent_pos e
      obtain ⟨_, _, _, _, h5, _⟩ := ent_ok e
      obtain ⟨i1, i2, i3, i4, i5, i6, i7⟩ := ih (b.drop m) d' (by rw [h5]; exact chain_u64 _ _)
      rw [List.length_drop] at i2 i5
      rw [jr_ok e]
      refine ⟨by simp only [List.length_cons]; omega, by simp only []; omega, by simp only [List.length_cons]; omega, i4, ?_, i6, ?_⟩
      · simp only []
        rw [i5]
        omega
      · intro hb x hx
        rcases List.mem_cons.1 hx with rfl | hx
        · exact ent_node hb e
        · exact i7 (fun y hy => hb y (List.mem_of_mem_drop hy)) x hx
/-- a node that can be an entry -/
def Fits (n : S43) : Prop := Ok 8 n ∧ (enc 8 n).length ≤ 2000
def body (n : S43) : List Int := b4 ((enc 8 n).length : Int) ++ enc 8 n
def en (n : S43) (d : Int) : List Int := body n ++ be8 (chain d (body n))
def ents : List S43 → Int → List Int
  | [], _ => []
  | n :: r, d => en n d ++ ents r (chain d (body n))
def dl : List S43 → Int → Int
  | [], d => d
  | n :: r, d => dl r (chain d (body n))
theorem body_len (n : S43) : (body n).length = 4 + (enc 8 n).length := by unfold body; rw [List.length_append]; rfl
theorem en_len (n : S43) (d : Int) : (en n d).length = 4 + (enc 8 n).length + 8 := by unfold en; rw [List.length_append, body_len, be8_length]
theorem body_bytes {n : S43} (h : Ok 8 n) : Bytes (body n) := bytes_append.2 ⟨b4_bytes _, enc_bytes 8 n h⟩
theorem en_bytes {n : S43} (h : Ok 8 n) (d : Int) : Bytes (en n d) := bytes_append.2 ⟨body_bytes h, be8_bytes _⟩
theorem en_take4 (n : S43) (d : Int) (t : List Int) : (en n d ++ t).take 4 = b4 ((enc 8 n).length : Int) := by
  unfold en body
  rw [List.append_assoc, List.append_assoc, List.take_append_of_le_length (by simp [b4]), List.take_of_length_le (by simp [b4])]
theorem ent_en {n : S43} (h : Fits n) (d : Int) (t : List Int) : ent (en n d ++ t) d = .ok (n, (en n d).length, chain d (body n)) := by
  have hl := h.2
  have e4 := en_take4 n d t
  have en4 : num ((en n d ++ t).take 4) = ((enc 8 n).length : Int) := by rw [e4]; exact num_b4 (by omega) (by omega)
  have e1 : (en n d ++ t).take ((en n d).length - 8) = body n := by
    unfold en
    rw [List.length_append, be8_length, Nat.add_sub_cancel, List.append_assoc, List.take_append_of_le_length (Nat.le_refl _), List.take_length]
  have e2 : ((en n d ++ t).take (en n d).length).drop ((en n d).length - 8) = be8 (chain d (body n)) := by
    rw [List.take_append_of_le_length (Nat.le_refl _), List.take_length]
    unfold en
    rw [List.length_append, be8_length, Nat.add_sub_cancel, List.drop_append_of_le_length (Nat.le_refl _), List.drop_length, List.nil_append]
  have hk := ent_mk (b := en n d ++ t) (d := d) (n := n) (m := (en n d).length) (by rw [List.length_append, en_len]; omega) (by rw [en4]; omega) (by rw [en4, en_len]; omega) (by rw [List.length_append]; omega)
    (by rw [e1, e2, num_be8 (chain_u64 _ _)]) (by rw [e1]; unfold body; rw [List.drop_append_of_le_length (by simp [b4]), List.drop_of_length_le (by simp [b4]), List.nil_append]; have := pn_enc 4 8 n [] h.1; rwa [List.append_nil] at this)
  rw [hk, e1]
/-- Reading gives back what was written, and goes on. -/
theorem jr_ents : ∀ (a : List S43) (c : Nat) (d : Int) (t : List Int), (∀ n ∈ a, Fits n) → a.length ≤ c →
    jr c (ents a d ++ t) d = (a ++ (jr (c - a.length) t (dl a d)).1, (ents a d).length + (jr (c - a.length) t (dl a d)).2.1, (jr (c - a.length) t (dl a d)).2.2.1, (jr (c - a.length) t (dl a d)).2.2.2) := by
  intro a
  induction a with
  | nil => intro c d t _ _; simp [ents, dl]
  | cons n r ih =>
    intro c d t h hc
    obtain ⟨c, rfl⟩ : ∃ m, c = m + 1 := ⟨c - 1, by simp only [List.length_cons] at hc; omega⟩
    simp only [List.length_cons] at hc
    have e := ent_en (h n (by simp)) d (ents r (chain d (body n)) ++ t)
    simp only [ents, dl, List.length_cons, List.cons_append]
    rw [List.append_assoc, jr_ok e, List.drop_append_of_le_length (Nat.le_refl _), List.drop_length, List.nil_append, ih c _ t (fun x hx => h x (by simp [hx])) (by omega), show c + 1 - (r.length + 1) = c - r.length from by omega]
    simp only [List.length_append, Nat.add_assoc]
theorem jr_all (a : List S43) (c : Nat) (d : Int) (h : ∀ n ∈ a, Fits n) (hc : a.length ≤ c) : jr c (ents a d) d = (a, (ents a d).length, dl a d, none) := by
  have e := jr_ents a c d [] h hc
  rw [List.append_nil, jr_nil, List.append_nil, Nat.add_zero] at e
  exact e
/-- A cut entry is truncated. -/
theorem ent_cut {n : S43} (h : Fits n) (d : Int) (t : List Int) {x : Nat} (hx : x < (en n d).length) : ent ((en n d ++ t).take x) d = .error 4 := by
  have hl := h.2
  rw [en_len] at hx
  unfold ent
  have elen : ((en n d ++ t).take x).length = x := by rw [List.length_take, List.length_append, en_len]; omega
  rw [elen]
  by_cases h4 : x < 4
  · rw [if_pos h4]
  · have e4 : ((en n d ++ t).take x).take 4 = b4 ((enc 8 n).length : Int) := by rw [List.take_take, Nat.min_eq_left (by omega), en_take4]
    rw [if_neg h4, e4, num_b4 (by omega) (by omega), if_neg (by omega), Int.toNat_natCast, if_pos (by omega)]
end Go.Proofs.YteeggfnailpcpaaDoor.Jou

