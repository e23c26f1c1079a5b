/- Words of the kit's printer that this claim uses, cut to these by wip/trim.py. -/
import Derived.Test.YteeggfnailpcpaaDoorCodF
import Derived.Test.YteeggfnailpcpaaDoorQx16
namespace Go.Proofs.YteeggfnailpcpaaDoor.Cod
open Go.RowKit Go.Proofs.YteeggfnailpcpaaDoor.Q Go.Proofs.YteeggfnailpcpaaDoorW.PrintWords Go.Proofs.YteeggfnailpcpaaDoorW.PrintLast Go.Proofs.YteeggfnailpcpaaDoorW.PrintMore

theorem rvarint_l0 : ∀ (j : Nat) (x : Int) (b : List Int) (k : Nat), 0 ≤ x → x < 2 ^ (7 * j + 7) → x < 18446744073709551616 → j < k → b.length + (vi j x).length ≤ 140737488355328 →
    examboardref10_varint.l0 k b x = some (b ++ vi j x) := by
  intro j
  induction j with
  | zero =>
    intro x b k h0 h1 _ hk hb
    obtain ⟨k, rfl⟩ : ∃ m, k = m + 1 := ⟨k - 1, by omega⟩
    have : x < 128 := h1
    simp only [vi, List.length_singleton] at hb
    simp only [examboardref10_varint.l0, vi]
    rw [if_neg (by omega), if_pos (by omega), show x % 256 = x from by omega]
  | succ j ih =>
    intro x b k h0 h1 hu hk hb
    obtain ⟨k, rfl⟩ : ∃ m, k = m + 1 := ⟨k - 1, by omega⟩
    rw [p7] at h1
    simp only [examboardref10_varint.l0]
    rw [vi] at hb ⊢
    by_cases hx : x > 127
    · rw [if_pos hx, List.length_cons] at hb
      rw [if_pos (by omega), if_pos hx, if_pos (by omega), Int.tmod_eq_emod_of_nonneg h0, Int.tdiv_eq_ediv_of_nonneg h0, wU (n := x % 128 + 128) (by omega) (by omega), wU (n := x / 128) (by omega) (by omega), show (x % 128 + 128) % 256 = x % 128 + 128 from by omega,
        ih (x / 128) _ k (by omega) (by omega) (by omega) (by omega) (by rw [List.length_append, List.length_singleton]; omega), List.append_assoc]
      rfl
    · rw [if_neg hx, List.length_singleton] at hb
      rw [if_neg (by omega), if_neg hx, if_pos (by omega), show x % 256 = x from by omega]
theorem rvarint_is {k : Nat} {x : Int} {b : List Int} (h0 : 0 ≤ x) (h1 : x < 18446744073709551616) (hk : 10 ≤ k) (hb : b.length + (vi 9 x).length ≤ 140737488355328) :
    examboardref10_varint.f k b x = some (b ++ vi 9 x) := rvarint_l0 9 x b k h0 (big h1) h1 (by omega) hb

theorem fits_l0 {d kk : Nat} {lv : Int} (hlv : wrap64 (lv + 1) = 9 - (d : Int)) (f0 f1 f2 : Int) (f3 : ByteArray) (l : List S43) (hl : l.length ≤ 1024)
    (ih : ∀ x ∈ l, ∀ k, kk ≤ k → ∃ b, examboardref10_fits.f k x.f0 x.f1 x.f2 x.f3 x.f4 (9 - (d : Int)) = some b ∧ (b = true ↔ Ok d x)) :
    ∀ (m i k : Nat), i + m = l.length → kk + m + 1 ≤ k → ∃ b, examboardref10_fits.l0 k lv (i : Int) f0 f1 f2 f3 l = some b ∧ (b = true ↔ ∀ x ∈ l.drop i, Ok d x) := by
  intro m
  induction m with
  | zero =>
    intro i k hi hk
    obtain ⟨k, rfl⟩ : ∃ m, k = m + 1 := ⟨k - 1, by omega⟩
    simp only [examboardref10_fits.l0]
    rw [if_neg (by omega), List.drop_of_length_le (by omega)]
    exact ⟨true, rfl, by simp⟩
  | succ m ihm =>
    intro i k hi hk
    obtain ⟨k, rfl⟩ : ∃ m, k = m + 1 := ⟨k - 1, by omega⟩
    have hlt : i < l.length := by omega
    simp only [examboardref10_fits.l0]
    obtain ⟨b, e, hb⟩ := ih _ (List.getElem_mem hlt) k (by omega)
    rw [if_pos (by omega), if_pos (by omega), rdT l i hlt, hlv, e, Option.bind_some, drop_at l i hlt]
    by_cases hx : Ok d l[i]
    · rw [if_pos (hb.2 hx), w64 (by omega) (by omega)]
      obtain ⟨u, eu, hu⟩ := ihm (i + 1) k (by omega) (by omega)
      refine ⟨u, by exact_mod_cast eu, ?_⟩
      rw [hu]
      simp only [List.mem_cons, forall_eq_or_imp]
      exact ⟨fun h => ⟨hx, h⟩, fun h => h.2⟩
    · rw [if_neg (fun h => hx (hb.1 h))]
      exact ⟨false, rfl, ⟨fun h => (by cases h), fun h => absurd (h _ (List.mem_cons_self ..)) hx⟩⟩
theorem fits_is : ∀ (d : Nat) (n : S43) (k : Nat), d ≤ 8 → Wf d n → 1100 * d + 50 ≤ k → ∃ b, examboardref10_fits.f k n.f0 n.f1 n.f2 n.f3 n.f4 (9 - (d : Int)) = some b ∧ (b = true ↔ Ok d n) := by
  intro d
  induction d with
  | zero =>
    intro n k _ _ hk
    obtain ⟨k, rfl⟩ : ∃ m, k = m + 2 := ⟨k - 2, by omega⟩
    simp only [examboardref10_fits.f, examboardref10_fits.j0]
    rw [if_pos (by decide), if_pos trivial]
    exact ⟨false, rfl, ⟨fun h => (by cases h), fun h => (show False from h).elim⟩⟩
  | succ d ih =>
    intro n k hd hw hk
    obtain ⟨f0, f1, f2, f3, f4⟩ := n
    obtain ⟨k, rfl⟩ : ∃ m, k = m + 4 := ⟨k - 4, by omega⟩
    obtain ⟨hw2, hwk⟩ := hw
    simp only at hw2 hwk
    have no : ∀ {r : Option Bool} {n : S43}, r = some false → ¬ Ok (d + 1) n → ∃ b, r = some b ∧ (b = true ↔ Ok (d + 1) n) := fun h hn => ⟨false, h, ⟨fun h => (by cases h), fun h => absurd h hn⟩⟩
    simp only [examboardref10_fits.f]
    rw [if_neg (by omega)]
    by_cases h0 : f0 < 0
    · rw [if_pos h0]
      exact no (by simp [examboardref10_fits.j0]) (fun h => by have := h.1.1; simp only at this; omega)
    rw [if_neg h0]
    by_cases h1 : f0 > 9999999
    · rw [if_pos h1]
      exact no (by simp [examboardref10_fits.j0]) (fun h => by have := h.1.2; simp only at this; omega)
    rw [if_neg h1]
    have hf0 : 0 ≤ f0 ∧ f0 ≤ 9999999 := ⟨by omega, by omega⟩
    by_cases h3 : (f3.size : Int) > 2000
    · rw [if_pos h3]
      refine no (by simp [examboardref10_fits.j0]) ?_
      rintro ⟨_, ⟨_, _, h, _⟩ | ⟨_, _, h, _⟩ | ⟨_, _, h, _⟩⟩
      · simp only at h; rw [h] at h3; exact absurd h3 (by decide)
      · simp only at h; omega
      · simp only at h; rw [h] at h3; exact absurd h3 (by decide)
    rw [if_neg h3]
    by_cases h4 : f4.length > 1024
    · rw [show decide ((f4.length : Int) > 1024) = true from by simp only [decide_eq_true_eq]; omega]
      refine no (by simp [examboardref10_fits.j0]) ?_
      rintro ⟨_, ⟨_, _, _, h⟩ | ⟨_, _, _, h⟩ | ⟨_, _, _, h, _⟩⟩
      · simp only at h; rw [h] at h4; exact absurd h4 (by simp)
      · simp only at h; rw [h] at h4; exact absurd h4 (by simp)
      · simp only at h; omega
    rw [show decide ((f4.length : Int) > 1024) = false from by simp only [decide_eq_false_iff_not]; omega]
    obtain ⟨b, eb, hb⟩ := fits_l0 (d := d) (kk := 1100 * d + 50) (lv := 9 - ((d + 1 : Nat) : Int)) (by rw [w64 (by omega) (by omega)]; omega) f0 f1 f2 f3 f4 (by omega) (fun x hx k hk => ih x k (by omega) (hwk x hx) hk) f4.length 0 k (by omega) (by omega)
    rw [List.drop_zero] at hb
    have sz : (f3.size : Int) > 0 ↔ f3 ≠ nul := ⟨fun h e => by rw [e] at h; exact absurd h (by decide), fun h => by
      have : f3.size ≠ 0 := fun e => h (nul_of_size e)
      omega⟩
    have ln : (f4.length : Int) > 0 ↔ f4 ≠ [] := ⟨fun h e => by rw [e] at h; exact absurd h (by decide), fun h => by
      have := List.length_pos_iff.2 h
      omega⟩
    simp only [examboardref10_fits.j0]
    rw [if_neg (by decide)]
    by_cases k1 : f1 = 1
    · subst k1
      rw [if_pos rfl, if_neg (by decide)]
      by_cases hs : f3 = nul
      · rw [if_neg (fun h => sz.1 h hs), if_neg (by decide)]
        by_cases he : f4 = []
        · rw [show decide ((f4.length : Int) > 0) = false from by simp only [decide_eq_false_iff_not]; exact fun h => ln.1 h he]
          simp only [examboardref10_fits.j1, examboardref10_fits.j2]
          rw [if_neg (by decide), if_neg (by decide), if_neg (by decide)]
          refine ⟨b, eb, hb.trans ⟨fun _ => ⟨hf0, .inl ⟨rfl, hw2, hs, he⟩⟩, fun _ x hx => by rw [he] at hx; cases hx⟩⟩
        · rw [show decide ((f4.length : Int) > 0) = true from by simp only [decide_eq_true_eq]; exact ln.2 he]
          refine no (by simp [examboardref10_fits.j1]) ?_
          rintro ⟨_, ⟨_, _, _, h⟩ | ⟨h, _⟩ | ⟨h, _⟩⟩
          · exact he h
          · exact absurd h (by simp)
          · exact absurd h (by simp)
      · rw [if_pos (sz.2 hs)]
        refine no (by simp [examboardref10_fits.j1]) ?_
        rintro ⟨_, ⟨_, _, h, _⟩ | ⟨h, _⟩ | ⟨h, _⟩⟩
        · exact hs h
        · exact absurd h (by simp)
        · exact absurd h (by simp)
    rw [if_neg k1]
    by_cases hn : f2 = 0
    rotate_left
    · rw [if_neg hn]
      refine no (by simp [examboardref10_fits.j1]) ?_
      rintro ⟨_, ⟨h, _⟩ | ⟨_, h, _⟩ | ⟨_, h, _⟩⟩
      · exact absurd h k1
      · exact hn h
      · exact hn h
    rw [if_pos hn]
    by_cases k2 : f1 = 2
    · subst k2
      rw [if_pos rfl, if_neg (by decide)]
      by_cases he : f4 = []
      · rw [show decide ((f4.length : Int) > 0) = false from by simp only [decide_eq_false_iff_not]; exact fun h => ln.1 h he]
        simp only [examboardref10_fits.j1, examboardref10_fits.j2]
        rw [if_neg (by decide), if_neg (by decide), if_neg (by decide)]
        refine ⟨b, eb, hb.trans ⟨fun _ => ⟨hf0, .inr (.inl ⟨rfl, hn, by show f3.size ≤ 2000; omega, he⟩)⟩, fun _ x hx => by rw [he] at hx; cases hx⟩⟩
      · rw [show decide ((f4.length : Int) > 0) = true from by simp only [decide_eq_true_eq]; exact ln.2 he]
        refine no (by simp [examboardref10_fits.j1]) ?_
        rintro ⟨_, ⟨h, _⟩ | ⟨_, _, _, h⟩ | ⟨h, _⟩⟩
        · exact absurd h (by simp)
        · exact he h
        · exact absurd h (by simp)
    rw [if_neg k2]
    by_cases hs : f3 = nul
    rotate_left
    · rw [if_pos (sz.2 hs)]
      refine no (by simp [examboardref10_fits.j1]) ?_
      rintro ⟨_, ⟨h, _⟩ | ⟨h, _⟩ | ⟨_, _, h, _⟩⟩
      · exact absurd h k1
      · exact absurd h k2
      · exact hs h
    rw [if_neg (fun h => sz.1 h hs)]
    by_cases k3 : f1 = 3
    · subst k3
      rw [if_pos rfl]
      simp only [examboardref10_fits.j1, examboardref10_fits.j2]
      rw [if_neg (by decide), if_neg (by decide), if_neg (by decide)]
      refine ⟨b, eb, hb.trans ⟨fun h => ⟨hf0, .inr (.inr ⟨rfl, hn, hs, by show f4.length ≤ 1024; omega, h⟩)⟩, ?_⟩⟩
      rintro ⟨_, ⟨h, _⟩ | ⟨h, _⟩ | ⟨_, _, _, _, h⟩⟩
      · exact absurd h (by simp)
      · exact absurd h (by simp)
      · exact h
    rw [if_neg k3]
    refine no ?_ ?_
    · by_cases he : (f4.length : Int) > 0
      · rw [show decide ((f4.length : Int) > 0) = true from by simp only [decide_eq_true_eq]; exact he]
        simp [examboardref10_fits.j1]
      · rw [show decide ((f4.length : Int) > 0) = false from by simp only [decide_eq_false_iff_not]; exact he]
        simp only [examboardref10_fits.j1, examboardref10_fits.j2]
        rw [if_neg (by decide)]
        by_cases hlt : f1 < 1
        · rw [if_pos hlt, if_pos trivial]
        · rw [if_neg hlt, if_pos (by simp only [decide_eq_true_eq]; omega)]
    · rintro ⟨_, ⟨h, _⟩ | ⟨h, _⟩ | ⟨h, _⟩⟩
      · exact absurd h k1
      · exact absurd h k2
      · exact absurd h k3

def Wr (b e : List Int) (r : Option (List Int)) : Prop := ∃ out, r = some out ∧ out.length ≤ 1060000 ∧ (b.length + e.length ≤ 1048576 → out = b ++ e) ∧ (1048576 < b.length + e.length → 1048576 < out.length)
theorem write_l0 {d kk : Nat} (f0 f1 f2 : Int) (f3 : ByteArray) (l : List S43) (hl : l.length ≤ 1024)
    (ih : ∀ x ∈ l, ∀ (b : List Int) (k : Nat), kk ≤ k → b.length ≤ 1060000 → Wr b (enc d x) (examboardref10_write.f k b x.f0 x.f1 x.f2 x.f3 x.f4)) :
    ∀ (m i : Nat) (b : List Int) (k : Nat), i + m = l.length → kk + m + 1 ≤ k → b.length ≤ 1060000 → Wr b ((l.drop i).flatMap (enc d)) (examboardref10_write.l0 k b (i : Int) f0 f1 f2 f3 l) := by
  intro m
  induction m with
  | zero =>
    intro i b k hi hk hb
    obtain ⟨k, rfl⟩ : ∃ m, k = m + 1 := ⟨k - 1, by omega⟩
    simp only [examboardref10_write.l0]
    rw [if_neg (by omega), List.drop_of_length_le (by omega), List.flatMap_nil]
    exact ⟨b, rfl, hb, fun _ => by rw [List.append_nil], fun h => by rw [List.length_nil] at h; omega⟩
  | succ m ihm =>
    intro i b k hi hk hb
    obtain ⟨k, rfl⟩ : ∃ m, k = m + 1 := ⟨k - 1, by omega⟩
    have hlt : i < l.length := by omega
    simp only [examboardref10_write.l0]
    obtain ⟨o1, e1, l1, a1, b1⟩ := ih _ (List.getElem_mem hlt) b k (by omega) hb
    rw [if_pos (by omega), if_pos (by omega), rdT l i hlt, e1, Option.bind_some, w64 (by omega) (by omega), drop_at l i hlt, List.flatMap_cons]
    obtain ⟨o2, e2, l2, a2, b2⟩ := ihm (i + 1) o1 k (by omega) (by omega) l1
    refine ⟨o2, by exact_mod_cast e2, l2, fun h => ?_, fun h => b2 ?_⟩
    · rw [List.length_append] at h
      have h1 := a1 (by omega)
      rw [a2 (by rw [h1, List.length_append]; omega), h1, List.append_assoc]
    · rw [List.length_append] at h
      by_cases hx : b.length + (enc d l[i]).length ≤ 1048576
      · rw [a1 hx, List.length_append]; omega
      · have := b1 (by omega); omega
theorem write_is : ∀ (d : Nat) (n : S43) (b : List Int) (k : Nat), Ok d n → 1100 * d + 50 ≤ k → b.length ≤ 1060000 → Wr b (enc d n) (examboardref10_write.f k b n.f0 n.f1 n.f2 n.f3 n.f4) := by
  intro d
  induction d with
  | zero => intro n b k h; exact h.elim
  | succ d ih =>
    intro n b k h hk hb
    obtain ⟨f0, f1, f2, f3, f4⟩ := n
    obtain ⟨⟨h0, h0'⟩, h⟩ := h
    obtain ⟨k, rfl⟩ : ∃ m, k = m + 1 := ⟨k - 1, by omega⟩
    simp only at h0 h0' h
    simp only [examboardref10_write.f]
    by_cases hM : (b.length : Int) > 1048576
    · rw [if_pos hM]
      exact ⟨b, rfl, hb, fun h => by omega, fun _ => by omega⟩
    rw [if_neg hM]
    have v0 := vi_len 9 f0
    rw [wU (by omega) (by omega), rvarint_is h0 (by omega) (by omega) (by omega), Option.bind_some, Option.bind_some, if_pos (by simp only [List.length_append, List.length_singleton]; omega), Option.bind_some]
    have fin : ∀ {o e : List Int} {r : Option (List Int)}, r = some o → o = b ++ e → o.length ≤ 1060000 → Wr b e r := fun hr ho hl => ⟨_, hr, hl, fun _ => ho, fun h => by rw [ho, List.length_append]; exact h⟩
    rcases h with ⟨rfl, h2, rfl, rfl⟩ | ⟨rfl, rfl, h3, rfl⟩ | ⟨rfl, rfl, rfl, h4, hkk⟩
    · have v1 := vi_len 9 (zz f2)
      rw [if_pos rfl]
      by_cases hneg : f2 < 0
      · have ez : zz f2 = 2 * (-(f2 + 1)) + 1 := by unfold zz; rw [if_pos hneg]
        rw [if_pos hneg, w64 (i := f2 + 1) (by omega) (by omega), w64 (i := -(f2 + 1)) (by omega) (by omega), wU (n := -(f2 + 1)) (by omega) (by omega), wU (n := 2 * (-(f2 + 1))) (by omega) (by omega), wU (n := 2 * (-(f2 + 1)) + 1) (by omega) (by omega), ← ez,
          rvarint_is (zz_range h2.1 h2.2).1 (zz_range h2.1 h2.2).2 (by omega) (by simp only [List.length_append, List.length_singleton]; omega), Option.bind_some]
        exact fin rfl (by simp [enc]) (by simp only [List.length_append, List.length_singleton]; omega)
      · have ez : zz f2 = 2 * f2 := by unfold zz; rw [if_neg hneg]
        rw [if_neg hneg, wU (n := f2) (by omega) (by omega), wU (n := 2 * f2) (by omega) (by omega), ← ez,
          rvarint_is (zz_range h2.1 h2.2).1 (zz_range h2.1 h2.2).2 (by omega) (by simp only [List.length_append, List.length_singleton]; omega), Option.bind_some]
        exact fin rfl (by simp [enc]) (by simp only [List.length_append, List.length_singleton]; omega)
    · have v1 := vi_len 9 (f3.size : Int)
      rw [if_neg (by decide), if_pos rfl, wU (by omega) (by omega), rvarint_is (by omega) (by omega) (by omega) (by simp only [List.length_append, List.length_singleton]; omega), Option.bind_some, if_pos (by simp only [List.length_append, List.length_singleton]; omega)]
      exact fin rfl (by simp [enc]) (by simp only [List.length_append, List.length_singleton, bytesOf_len]; omega)
    · have v1 := vi_len 9 (f4.length : Int)
      rw [if_neg (by decide), if_neg (by decide), wU (by omega) (by omega), rvarint_is (by omega) (by omega) (by omega) (by simp only [List.length_append, List.length_singleton]; omega), Option.bind_some]
      obtain ⟨o, eo, lo, ao, bo⟩ := write_l0 (d := d) (kk := 1100 * d + 50) f0 3 0 nul f4 h4 (fun x hx b k hk hb => ih x b k (hkk x hx) hk hb) f4.length 0 (b ++ vi 9 f0 ++ [3 % 256] ++ vi 9 (f4.length : Int)) k (by omega) (by omega) (by simp only [List.length_append, List.length_singleton]; omega)
      rw [List.drop_zero] at ao bo
      have el : (enc (d + 1) ⟨f0, 3, 0, nul, f4⟩).length = (vi 9 f0).length + 1 + ((vi 9 (f4.length : Int)).length + (f4.flatMap (enc d)).length) := by simp [enc]; omega
      simp only [List.length_append, List.length_singleton] at ao bo
      rw [Wr, el]
      refine ⟨o, eo, lo, fun h => ?_, fun h => bo (by omega)⟩
      rw [ao (by omega)]
      simp [enc]

theorem rEncode {k : Nat} {n : S43} (hw : Wf 8 n) (hk : 9000 ≤ k) : (Fit n → examboardref10_Encode.f k n.f0 n.f1 n.f2 n.f3 n.f4 = some (enc 8 n, 0)) ∧ (¬ Fit n → examboardref10_Encode.f k n.f0 n.f1 n.f2 n.f3 n.f4 = some ([], 1)) := by
  obtain ⟨b, eb, hb⟩ := fits_is 8 n k (by decide) hw (by omega)
  unfold examboardref10_Encode.f
  rw [show (1 : Int) = 9 - ((8 : Nat) : Int) from by decide, eb, Option.bind_some]
  by_cases ho : Ok 8 n
  · obtain ⟨o, eo, lo, ao, bo⟩ := write_is 8 n [] k ho (by omega) (by simp)
    rw [if_pos (hb.2 ho), eo, Option.bind_some]
    simp only [List.length_nil, Nat.zero_add, List.nil_append] at ao bo
    constructor
    · intro hf
      rw [ao hf.2, if_neg (by have := hf.2; omega)]
    · intro hf
      rw [if_pos (by have := bo (Nat.lt_of_not_le fun h => hf ⟨ho, h⟩); omega)]
  · rw [if_neg (fun h => ho (hb.1 h))]
    exact ⟨fun hf => absurd hf.1 ho, fun _ => rfl⟩
end Go.Proofs.YteeggfnailpcpaaDoor.Cod

