/- Words of the kit's printer that this claim uses, cut to these by wip/trim.py. -/
import Derived.Test.YteeggfnailpcpaaDoorQx0
namespace Go.Proofs.YteeggfnailpcpaaDoor.Cod
open Go.RowKit Go.Proofs.YteeggfnailpcpaaDoor.Q Go.Proofs.YteeggfnailpcpaaDoorW.PrintWords Go.Proofs.YteeggfnailpcpaaDoorW.PrintLast Go.Proofs.YteeggfnailpcpaaDoorW.PrintMore

def Bytes (l : List Int) : Prop := ∀ x ∈ l, 0 ≤ x ∧ x < 256
def nul : ByteArray := ⟨#[]⟩

theorem str_bytes (s : ByteArray) : strOfNums (bytesOf s) = s := by
  unfold strOfNums bytesOf
  apply ByteArray.ext
  apply Array.ext'
  simp [List.map_map, Function.comp_def]
theorem bytesOf_bytes (s : ByteArray) : Bytes (bytesOf s) := by
  intro x hx
  unfold bytesOf at hx
  obtain ⟨b, _, rfl⟩ := List.mem_map.1 hx
  have := b.toNat_lt
  omega
theorem bytes_str {l : List Int} (h : Bytes l) : bytesOf (strOfNums l) = l := by
  unfold strOfNums bytesOf
  rw [List.map_map]
  refine (List.map_congr_left (g := id) fun x hx => ?_).trans (List.map_id l)
  have := h x hx
  simp only [Function.comp_apply, id_eq, UInt8.toNat_ofNat']
  omega
theorem str_inj {a b : List Int} (ha : Bytes a) (hb : Bytes b) (h : (strOfNums a).toList = (strOfNums b).toList) : a = b := by
  have e : ∀ s : ByteArray, s.toList = s.data.toList := fun s => ByteArray.toList_eq s
  rw [e, e] at h
  have : bytesOf (strOfNums a) = bytesOf (strOfNums b) := by unfold bytesOf; rw [h]
  rwa [bytes_str ha, bytes_str hb] at this
theorem bytesOf_len (s : ByteArray) : (bytesOf s).length = s.size := bytesOf_length s
theorem nul_of_toList {s : ByteArray} (h : s.toList = ([] : List UInt8)) : s = nul := by
  rw [ByteArray.toList_eq] at h
  apply ByteArray.ext
  apply Array.ext'
  exact h
theorem nul_toList : nul.toList = ([] : List UInt8) := by rw [ByteArray.toList_eq]; rfl
theorem nul_of_size {s : ByteArray} (h : s.size = 0) : s = nul := by
  apply ByteArray.ext
  exact Array.eq_empty_of_size_eq_zero h
theorem bytes_append {a b : List Int} : Bytes (a ++ b) ↔ Bytes a ∧ Bytes b := by
  unfold Bytes
  constructor
  · intro h; exact ⟨fun x hx => h x (List.mem_append_left _ hx), fun x hx => h x (List.mem_append_right _ hx)⟩
  · rintro ⟨ha, hb⟩ x hx
    rcases List.mem_append.1 hx with h | h
    · exact ha x h
    · exact hb x h
theorem bytes_cons {c : Int} {l : List Int} : Bytes (c :: l) ↔ (0 ≤ c ∧ c < 256) ∧ Bytes l := by
  unfold Bytes
  simp only [List.mem_cons, forall_eq_or_imp]
theorem bytes_nil : Bytes [] := by intro x hx; cases hx

def vi : Nat → Int → List Int
  | 0, x => [x]
  | j + 1, x => if x > 127 then (x % 128 + 128) :: vi j (x / 128) else [x]
theorem vi_len : ∀ (j : Nat) (x : Int), 1 ≤ (vi j x).length ∧ (vi j x).length ≤ j + 1 := by
  intro j
  induction j with
  | zero => intro x; simp [vi]
  | succ j ih =>
    intro x
    unfold vi
    split
    · have := ih (x / 128)
      rw [List.length_cons]
      omega
    · simp
theorem vi_bytes : ∀ (j : Nat) (x : Int), 0 ≤ x → x < 2 ^ (7 * j + 8) → Bytes (vi j x) := by
  intro j
  induction j with
  | zero => intro x h0 h1; unfold vi; rw [bytes_cons]; exact ⟨⟨h0, by omega⟩, bytes_nil⟩
  | succ j ih =>
    intro x h0 h1
    unfold vi
    split
    · rw [bytes_cons]
      refine ⟨by omega, ih (x / 128) (by omega) ?_⟩
      have e : (2 : Int) ^ (7 * (j + 1) + 8) = 2 ^ (7 * j + 8) * 128 := by rw [show 7 * (j + 1) + 8 = (7 * j + 8) + 7 from by omega, Int.pow_add]; rfl
      rw [e] at h1
      omega
    · rw [bytes_cons]; exact ⟨by omega, bytes_nil⟩

abbrev Par (α : Type) := List Int → Except Int (α × List Int)
def nx (e : Int) : Par Int
  | [] => .error e
  | c :: r => .ok (c, r)
def bd {α β : Type} (x : Except Int (α × List Int)) (f : α → List Int → Except Int (β × List Int)) : Except Int (β × List Int) :=
  match x with
  | .error c => .error c
  | .ok (a, r) => f a r
def rv (e : Int) : Nat → Bool → Par Int
  | 0, _, s => .ok (0, s)
  | j + 1, first, s => bd (nx e s) fun c r =>
      if j = 0 ∧ c > 1 ∨ c = 0 ∧ first = false then .error 2
      else if c < 128 then .ok (c, r)
      else bd (rv e j false r) fun y t => .ok (c - 128 + 128 * y, t)
def lm (e : Int) (most code : Int) (s : List Int) : Except Int (Int × List Int) :=
  bd (rv e 10 true s) fun x r => if x > most then .error code else .ok (x, r)
def pk {α : Type} (p : Par α) : Nat → Par (List α)
  | 0, s => .ok ([], s)
  | n + 1, s => bd (p s) fun a r => bd (pk p n r) fun l t => .ok (a :: l, t)
def zz (n : Int) : Int := if n < 0 then 2 * (-(n + 1)) + 1 else 2 * n
def uz (x : Int) : Int := if x % 2 = 1 then -(x / 2) - 1 else x / 2
def pn (e : Int) : Nat → Par S43
  | 0, _ => .error 5
  | d + 1, s => bd (lm e 9999999 3 s) fun tag s1 => bd (nx e s1) fun kind s2 =>
      if kind = 1 then bd (rv e 10 true s2) fun x s3 => .ok (⟨tag, 1, uz x, nul, []⟩, s3)
      else if kind = 2 then bd (lm e 2000 5 s2) fun n s3 => bd (pk (nx e) n.toNat s3) fun l s4 => .ok (⟨tag, 2, 0, strOfNums l, []⟩, s4)
      else if kind = 3 then bd (lm e 1024 5 s2) fun n s3 => bd (pk (pn e d) n.toNat s3) fun l s4 => .ok (⟨tag, 3, 0, nul, l⟩, s4)
      else .error 2

def enc : Nat → S43 → List Int
  | 0, _ => []
  | d + 1, n => vi 9 n.f0 ++ [n.f1] ++ (if n.f1 = 1 then vi 9 (zz n.f2) else if n.f1 = 2 then vi 9 (n.f3.size : Int) ++ bytesOf n.f3 else vi 9 (n.f4.length : Int) ++ n.f4.flatMap (enc d))
def Ok : Nat → S43 → Prop
  | 0, _ => False
  | d + 1, n => (0 ≤ n.f0 ∧ n.f0 ≤ 9999999) ∧ ((n.f1 = 1 ∧ (-9223372036854775808 ≤ n.f2 ∧ n.f2 < 9223372036854775808) ∧ n.f3 = nul ∧ n.f4 = []) ∨ (n.f1 = 2 ∧ n.f2 = 0 ∧ n.f3.size ≤ 2000 ∧ n.f4 = []) ∨
      (n.f1 = 3 ∧ n.f2 = 0 ∧ n.f3 = nul ∧ n.f4.length ≤ 1024 ∧ ∀ x ∈ n.f4, Ok d x))
theorem zz_range {n : Int} (h0 : -9223372036854775808 ≤ n) (h1 : n < 9223372036854775808) : 0 ≤ zz n ∧ zz n < 18446744073709551616 := by unfold zz; split <;> omega
theorem uz_zz (n : Int) : uz (zz n) = n := by unfold uz zz; split <;> split <;> omega
theorem zz_uz {x : Int} (h : 0 ≤ x) : zz (uz x) = x := by unfold uz zz; split <;> split <;> omega
theorem uz_range {x : Int} (h0 : 0 ≤ x) (h1 : x < 18446744073709551616) : -9223372036854775808 ≤ uz x ∧ uz x < 9223372036854775808 := by unfold uz; split <;> omega

theorem rv_vi (e : Int) : ∀ (j : Nat) (first : Bool) (x : Int) (r : List Int), 0 ≤ x → x < 2 ^ (7 * j + 1) → (first = false → 1 ≤ x) → rv e (j + 1) first (vi j x ++ r) = .ok (x, r) := by
  intro j
  induction j with
  | zero =>
    intro first x r h0 h1 hf
    simp only [rv, vi, List.cons_append, List.nil_append, nx, bd]
    have h2 : x < 2 := h1
    rw [if_neg (by rintro (⟨_, h⟩ | ⟨h, h'⟩); omega; have := hf h'; omega), if_pos (by omega)]
  | succ j ih =>
    intro first x r h0 h1 hf
    have e2 : (2 : Int) ^ (7 * (j + 1) + 1) = 2 ^ (7 * j + 1) * 128 := by rw [show 7 * (j + 1) + 1 = (7 * j + 1) + 7 from by omega, Int.pow_add]; rfl
    rw [e2] at h1
    rw [rv, vi]
    by_cases hx : x > 127
    · rw [if_pos hx]
      simp only [List.cons_append, nx, bd]
      rw [if_neg (by rintro (⟨h, _⟩ | ⟨h, _⟩) <;> omega), if_neg (by omega), ih false (x / 128) r (by omega) (by omega) (fun _ => by omega)]
      simp only [Except.ok.injEq, Prod.mk.injEq, and_true]
      omega
    · rw [if_neg hx]
      simp only [List.cons_append, List.nil_append, nx, bd]
      rw [if_neg (by rintro (⟨h, _⟩ | ⟨h, h'⟩); omega; have := hf h'; omega), if_pos (by omega)]
theorem rv_top (e : Int) {x : Int} (r : List Int) (h0 : 0 ≤ x) (h1 : x < 18446744073709551616) : rv e 10 true (vi 9 x ++ r) = .ok (x, r) :=
  rv_vi e 9 true x r h0 (by exact h1) (fun h => by cases h)
theorem lm_top (e : Int) {x most code : Int} (r : List Int) (h0 : 0 ≤ x) (h1 : x ≤ most) (hm : most < 18446744073709551616) : lm e most code (vi 9 x ++ r) = .ok (x, r) := by
  unfold lm
  rw [rv_top e r h0 (by omega)]
  simp only [bd]
  rw [if_neg (by omega)]
theorem pk_flat {α : Type} (p : Par α) (g : α → List Int) : ∀ (l : List α) (r : List Int), (∀ a ∈ l, ∀ r, p (g a ++ r) = .ok (a, r)) → pk p l.length (l.flatMap g ++ r) = .ok (l, r) := by
  intro l
  induction l with
  | nil => intro r _; rfl
  | cons a l ih =>
    intro r h
    rw [List.length_cons, pk, List.flatMap_cons, List.append_assoc, h a (List.mem_cons_self ..)]
    simp only [bd]
    rw [ih r (fun b hb => h b (List.mem_cons_of_mem _ hb))]
theorem pk_nx (e : Int) : ∀ (l : List Int) (r : List Int), pk (nx e) l.length (l ++ r) = .ok (l, r) := by
  intro l
  induction l with
  | nil => intro r; rfl
  | cons a l ih =>
    intro r
    rw [List.length_cons, pk, List.cons_append]
    simp only [nx, bd]
    rw [ih r]
theorem pn_enc (e : Int) : ∀ (d : Nat) (n : S43) (r : List Int), Ok d n → pn e d (enc d n ++ r) = .ok (n, r) := by
  intro d
  induction d with
  | zero => intro n r h; exact h.elim
  | succ d ih =>
    intro n r h
    obtain ⟨f0, f1, f2, f3, f4⟩ := n
    obtain ⟨⟨h0, h0'⟩, h⟩ := h
    simp only at h0 h0' h
    simp only [pn, enc, List.append_assoc]
    rw [lm_top e _ h0 h0' (by decide)]
    simp only [bd, List.cons_append, List.nil_append, nx]
    rcases h with ⟨rfl, h2, rfl, rfl⟩ | ⟨rfl, rfl, h3, rfl⟩ | ⟨rfl, rfl, rfl, h4, hk⟩
    · rw [if_pos rfl, if_pos rfl, rv_top e r (zz_range h2.1 h2.2).1 (zz_range h2.1 h2.2).2]
      simp only [uz_zz]
    · rw [if_neg (by decide), if_pos rfl, if_neg (by decide), if_pos rfl, List.append_assoc, lm_top e _ (by omega) (by omega) (by decide)]
      simp only
      rw [Int.toNat_natCast, ← bytesOf_len, pk_nx]
      simp only [str_bytes]
    · rw [if_neg (by decide), if_neg (by decide), if_pos rfl, if_neg (by decide), if_neg (by decide), List.append_assoc, lm_top e _ (by omega) (by omega) (by decide)]
      simp only
      rw [Int.toNat_natCast, pk_flat (pn e d) (enc d) f4 r (fun a ha r => ih a r (hk a ha))]

theorem bd_ok {α β : Type} {x : Except Int (α × List Int)} {f : α → List Int → Except Int (β × List Int)} {b : β} {t : List Int} (h : bd x f = .ok (b, t)) : ∃ a r, x = .ok (a, r) ∧ f a r = .ok (b, t) := by
  match x, h with
  | .ok (a, r), h => exact ⟨a, r, rfl, h⟩
theorem nx_ok {e : Int} {s r : List Int} {c : Int} (h : nx e s = .ok (c, r)) : s = c :: r := by
  match s, h with
  | c :: r, h => simp only [nx, Except.ok.injEq, Prod.mk.injEq] at h; rw [h.1, h.2]
theorem rv_ok (e : Int) : ∀ (j : Nat) (first : Bool) (s : List Int) (x : Int) (r : List Int), Bytes s → rv e (j + 1) first s = .ok (x, r) → s = vi j x ++ r ∧ 0 ≤ x ∧ x < 2 ^ (7 * j + 1) ∧ (first = false → 1 ≤ x) := by
  intro j
  induction j with
  | zero =>
    intro first s x r hs h
    rw [rv] at h
    obtain ⟨c, t, h1, h2⟩ := bd_ok h
    obtain rfl := nx_ok h1
    rw [bytes_cons] at hs
    split at h2
    · cases h2
    · rename_i hn
      have hc : ¬ c > 1 := fun h => hn (.inl ⟨rfl, h⟩)
      rw [if_pos (by omega)] at h2
      simp only [Except.ok.injEq, Prod.mk.injEq] at h2
      obtain ⟨rfl, rfl⟩ := h2
      refine ⟨rfl, hs.1.1, by show c < 2; omega, fun hf => ?_⟩
      have : ¬ c = 0 := fun h => hn (.inr ⟨h, hf⟩)
      omega
  | succ j ih =>
    intro first s x r hs h
    have e2 : (2 : Int) ^ (7 * (j + 1) + 1) = 2 ^ (7 * j + 1) * 128 := by rw [show 7 * (j + 1) + 1 = (7 * j + 1) + 7 from by omega, Int.pow_add]; rfl
    have e3 : (0 : Int) < 2 ^ (7 * j + 1) := Int.pow_pos (by decide)
    rw [rv] at h
    obtain ⟨c, t, h1, h2⟩ := bd_ok h
    obtain rfl := nx_ok h1
    rw [bytes_cons] at hs
    split at h2
    · cases h2
    · rename_i hn
      by_cases hc : c < 128
      · rw [if_pos hc] at h2
        simp only [Except.ok.injEq, Prod.mk.injEq] at h2
        obtain ⟨rfl, rfl⟩ := h2
        refine ⟨by rw [vi, if_neg (by omega)]; rfl, hs.1.1, by rw [e2]; omega, fun hf => ?_⟩
        have : ¬ c = 0 := fun h => hn (.inr ⟨h, hf⟩)
        omega
      · rw [if_neg hc] at h2
        obtain ⟨y, u, h3, h4⟩ := bd_ok h2
        obtain ⟨e4, y0, y1, y2⟩ := ih false t y u hs.2 h3
        have y3 := y2 rfl
        simp only [Except.ok.injEq, Prod.mk.injEq] at h4
        obtain ⟨rfl, rfl⟩ := h4
        have m1 : (c - 128 + 128 * y) % 128 + 128 = c := by omega
        have m2 : (c - 128 + 128 * y) / 128 = y := by omega
        refine ⟨by rw [vi, if_pos (by omega), m1, m2, List.cons_append, ← e4], by omega, by rw [e2]; omega, fun _ => by omega⟩
theorem rv_acc {e : Int} {s r : List Int} {x : Int} (hs : Bytes s) (h : rv e 10 true s = .ok (x, r)) : s = vi 9 x ++ r ∧ 0 ≤ x ∧ x < 18446744073709551616 := by
  obtain ⟨a, b, c, _⟩ := rv_ok e 9 true s x r hs h
  exact ⟨a, b, c⟩
theorem lm_acc {e most code : Int} {s r : List Int} {x : Int} (hs : Bytes s) (h : lm e most code s = .ok (x, r)) : s = vi 9 x ++ r ∧ 0 ≤ x ∧ x ≤ most := by
  obtain ⟨y, t, h1, h2⟩ := bd_ok h
  obtain ⟨e1, h3, _⟩ := rv_acc hs h1
  split at h2
  · cases h2
  · simp only [Except.ok.injEq, Prod.mk.injEq] at h2
    obtain ⟨rfl, rfl⟩ := h2
    exact ⟨e1, h3, by omega⟩
theorem pk_acc {α : Type} (p : Par α) (g : α → List Int) (Q : α → Prop) (hp : ∀ s a r, Bytes s → p s = .ok (a, r) → s = g a ++ r ∧ Q a) :
    ∀ (n : Nat) (s : List Int) (l : List α) (r : List Int), Bytes s → pk p n s = .ok (l, r) → s = l.flatMap g ++ r ∧ l.length = n ∧ ∀ a ∈ l, Q a := by
  intro n
  induction n with
  | zero =>
    intro s l r _ h
    simp only [pk, Except.ok.injEq, Prod.mk.injEq] at h
    obtain ⟨rfl, rfl⟩ := h
    exact ⟨rfl, rfl, fun a ha => by cases ha⟩
  | succ n ih =>
    intro s l r hs h
    obtain ⟨a, t, h1, h2⟩ := bd_ok h
    obtain ⟨e1, q1⟩ := hp s a t hs h1
    rw [e1, bytes_append] at hs
    obtain ⟨l', u, h3, h4⟩ := bd_ok h2
    obtain ⟨e2, q2, q3⟩ := ih t l' u hs.2 h3
    simp only [Except.ok.injEq, Prod.mk.injEq] at h4
    obtain ⟨rfl, rfl⟩ := h4
    refine ⟨by rw [e1, e2, List.flatMap_cons, List.append_assoc], by rw [List.length_cons, q2], fun b hb => ?_⟩
    rcases List.mem_cons.1 hb with rfl | hb
    · exact q1
    · exact q3 b hb
theorem pn_acc (e : Int) : ∀ (d : Nat) (s : List Int) (n : S43) (r : List Int), Bytes s → pn e d s = .ok (n, r) → s = enc d n ++ r ∧ Ok d n := by
  intro d
  induction d with
  | zero => intro s n r _ h; cases h
  | succ d ih =>
    intro s n r hs h
    obtain ⟨tag, s1, h1, h⟩ := bd_ok h
    obtain ⟨e1, t0, t1⟩ := lm_acc hs h1
    rw [e1, bytes_append] at hs
    obtain ⟨kind, s2, h2, h'⟩ := bd_ok h
    obtain rfl := nx_ok h2
    have hs2 := (bytes_cons.1 hs.2).2
    clear h
    have h := h'
    clear h'
    split at h
    · rename_i hk
      subst hk
      obtain ⟨x, s3, h3, h⟩ := bd_ok h
      obtain ⟨e3, x0, x1⟩ := rv_acc hs2 h3
      simp only [Except.ok.injEq, Prod.mk.injEq] at h
      obtain ⟨rfl, rfl⟩ := h
      refine ⟨?_, ⟨t0, t1⟩, .inl ⟨rfl, uz_range x0 x1, rfl, rfl⟩⟩
      rw [e1, e3]
      simp [enc, zz_uz x0]
    · split at h
      · rename_i hk
        subst hk
        obtain ⟨x, s3, h3, h⟩ := bd_ok h
        obtain ⟨e3, x0, x1⟩ := lm_acc hs2 h3
        rw [e3, bytes_append] at hs2
        obtain ⟨l, s4, h4, h⟩ := bd_ok h
        obtain ⟨e4, l1, l2⟩ := pk_acc (nx e) (fun c => [c]) (fun c => 0 ≤ c ∧ c < 256) (fun s a r hs h => by obtain rfl := nx_ok h; exact ⟨rfl, (bytes_cons.1 hs).1⟩) x.toNat s3 l s4 hs2.2 h4
        have hl : Bytes l := l2
        have e5 : l.flatMap (fun c => [c]) = l := by simp
        rw [e5] at e4
        simp only [Except.ok.injEq, Prod.mk.injEq] at h
        obtain ⟨rfl, rfl⟩ := h
        have sz : (strOfNums l).size = l.length := by rw [← bytesOf_len, bytes_str hl]
        refine ⟨?_, ⟨t0, t1⟩, .inr (.inl ⟨rfl, rfl, by show (strOfNums l).size ≤ 2000; rw [sz]; omega, rfl⟩)⟩
        rw [e1, e3, e4]
        simp only [enc, sz, bytes_str hl, l1]
        rw [if_neg (by decide), if_pos trivial, show ((x.toNat : Nat) : Int) = x from by omega]
        simp
      · split at h
        · rename_i hk
          subst hk
          obtain ⟨x, s3, h3, h⟩ := bd_ok h
          obtain ⟨e3, x0, x1⟩ := lm_acc hs2 h3
          rw [e3, bytes_append] at hs2
          obtain ⟨l, s4, h4, h⟩ := bd_ok h
          obtain ⟨e4, l1, l2⟩ := pk_acc (pn e d) (enc d) (Ok d) (fun s a r hs h => ih s a r hs h) x.toNat s3 l s4 hs2.2 h4
          simp only [Except.ok.injEq, Prod.mk.injEq] at h
          obtain ⟨rfl, rfl⟩ := h
          refine ⟨?_, ⟨t0, t1⟩, .inr (.inr ⟨rfl, rfl, rfl, by show l.length ≤ 1024; omega, l2⟩)⟩
          rw [e1, e3, e4]
          simp only [enc, l1]
          rw [if_neg (by decide), if_neg (by decide), show ((x.toNat : Nat) : Int) = x from by omega]
          simp
        · cases h

theorem enc_bytes : ∀ (d : Nat) (n : S43), Ok d n → Bytes (enc d n) := by
  intro d
  induction d with
  | zero => intro n h; exact h.elim
  | succ d ih =>
    intro n h
    obtain ⟨f0, f1, f2, f3, f4⟩ := n
    obtain ⟨⟨h0, h0'⟩, h⟩ := h
    simp only at h0 h0' h
    simp only [enc, bytes_append]
    have b9 : ∀ x : Int, 0 ≤ x → x < 18446744073709551616 → Bytes (vi 9 x) := by
      intro x h0 h1
      exact vi_bytes 9 x h0 (Int.lt_trans h1 (by decide))
    rcases h with ⟨rfl, h2, rfl, rfl⟩ | ⟨rfl, rfl, h3, rfl⟩ | ⟨rfl, rfl, rfl, h4, hk⟩
    · exact ⟨⟨b9 _ h0 (by omega), bytes_cons.2 ⟨by decide, bytes_nil⟩⟩, b9 _ (zz_range h2.1 h2.2).1 (zz_range h2.1 h2.2).2⟩
    · refine ⟨⟨b9 _ h0 (by omega), bytes_cons.2 ⟨by decide, bytes_nil⟩⟩, ?_⟩
      rw [if_neg (by decide), if_pos rfl, bytes_append]
      exact ⟨b9 _ (by omega) (by omega), bytesOf_bytes _⟩
    · refine ⟨⟨b9 _ h0 (by omega), bytes_cons.2 ⟨by decide, bytes_nil⟩⟩, ?_⟩
      rw [if_neg (by decide), if_neg (by decide), bytes_append]
      refine ⟨b9 _ (by omega) (by omega), fun x hx => ?_⟩
      obtain ⟨a, ha, hx⟩ := List.mem_flatMap.1 hx
      exact ih a (hk a ha) x hx
end Go.Proofs.YteeggfnailpcpaaDoor.Cod

