/- What an inbox is after some packets of one journal, told without the order in which they came: pairs (position, length) in plain Lean.
   D: how many bytes are there in one piece; L: the packets behind, in order. -/
namespace Go.Proofs.Ytglpnbcockancaa.Canon

abbrev P := Nat × Nat
def bef (p q : P) : Prop := p.1 < q.1 ∨ p.1 = q.1 ∧ p.2 < q.2
instance (p q : P) : Decidable (bef p q) := by unfold bef; exact inferInstance
/-- a packet at its place -/
def put (p : P) : List P → List P
  | [] => [p]
  | q :: l => if bef p q then p :: q :: l else q :: put p l
/-- the packets that reach to the bytes that are there are taken up -/
def absorb : List P → Nat → Nat × List P
  | [], D => (D, [])
  | q :: l, D => if q.1 ≤ D then absorb l (max D (q.1 + q.2)) else ((absorb l D).1, q :: (absorb l D).2)
/-- one packet more -/
def rcv (s : Nat × List P) (p : P) : Nat × List P :=
  if s.1 < p.1 then (s.1, if p ∈ s.2 then s.2 else put p s.2) else absorb s.2 (max s.1 (p.1 + p.2))

theorem bef_trans {p q r : P} (h : bef p q) (g : bef q r) : bef p r := by unfold bef at *; omega
theorem bef_irr {p : P} (h : bef p p) : False := by unfold bef at h; omega
theorem bef_total {p q : P} (h : ¬ bef p q) (g : p ≠ q) : bef q p := by
  unfold bef at *
  rcases Nat.lt_trichotomy p.1 q.1 with a | a | a
  · omega
  · rcases Nat.lt_trichotomy p.2 q.2 with b | b | b
    · omega
    · exact absurd (Prod.ext a b) g
    · omega
  · omega

theorem mem_put (p x : P) : ∀ l, x ∈ put p l ↔ x = p ∨ x ∈ l
  | [] => by simp [put]
  | q :: l => by
    unfold put
    by_cases h : bef p q
    · rw [if_pos h, List.mem_cons]
    · rw [if_neg h, List.mem_cons, mem_put p x l, List.mem_cons]
      constructor
      · rintro (a | a | a)
        · exact .inr (.inl a)
        · exact .inl a
        · exact .inr (.inr a)
      · rintro (a | a | a)
        · exact .inr (.inl a)
        · exact .inl a
        · exact .inr (.inr a)
theorem put_sorted {p : P} : ∀ {l : List P}, l.Pairwise bef → p ∉ l → (put p l).Pairwise bef
  | [], _, _ => by simp [put]
  | q :: l, h, n => by
    unfold put
    have h' := List.pairwise_cons.1 h
    by_cases b : bef p q
    · rw [if_pos b]
      refine List.pairwise_cons.2 ⟨fun x hx => ?_, h⟩
      rcases List.mem_cons.1 hx with rfl | hx
      · exact b
      · exact bef_trans b (h'.1 x hx)
    · rw [if_neg b]
      have hq : bef q p := bef_total b (fun e => n (e ▸ List.mem_cons_self))
      refine List.pairwise_cons.2 ⟨fun x hx => ?_, put_sorted h'.2 (fun m => n (List.mem_cons_of_mem _ m))⟩
      rcases (mem_put p x l).1 hx with rfl | hx
      · exact hq
      · exact h'.1 x hx
theorem put_length (p : P) : ∀ l, (put p l).length = l.length + 1
  | [] => rfl
  | q :: l => by
    unfold put
    split
    · rfl
    · rw [List.length_cons, put_length p l, List.length_cons]

theorem absorb_none : ∀ {l : List P} {D : Nat}, (∀ q ∈ l, D < q.1) → absorb l D = (D, l)
  | [], _, _ => rfl
  | q :: l, D, h => by
    have hq := h q List.mem_cons_self
    unfold absorb
    rw [if_neg (by omega), absorb_none (fun x hx => h x (List.mem_cons_of_mem _ hx))]
theorem absorb_length : ∀ (l : List P) (D : Nat), (absorb l D).2.length ≤ l.length
  | [], _ => Nat.le_refl _
  | q :: l, D => by
    unfold absorb
    split
    · have := absorb_length l (max D (q.1 + q.2)); rw [List.length_cons]; omega
    · have := absorb_length l D; rw [List.length_cons, List.length_cons]; omega
theorem absorb_le : ∀ (l : List P) (D : Nat), D ≤ (absorb l D).1
  | [], _ => Nat.le_refl _
  | q :: l, D => by
    unfold absorb
    split
    · have := absorb_le l (max D (q.1 + q.2)); omega
    · exact absorb_le l D
theorem absorb_spec : ∀ {l : List P} {D : Nat}, l.Pairwise bef →
    (∀ q ∈ l, q.1 ≤ (absorb l D).1 → q.1 + q.2 ≤ (absorb l D).1) ∧
    (∀ i, D ≤ i → i < (absorb l D).1 → ∃ q ∈ l, q.1 ≤ i ∧ i < q.1 + q.2) ∧
    (∀ q, q ∈ (absorb l D).2 ↔ q ∈ l ∧ (absorb l D).1 < q.1) ∧ (absorb l D).2.Pairwise bef
  | [], D, _ => by
    refine ⟨fun q hq => by simp at hq, fun i h h' => ?_, fun q => by simp [absorb], by simp [absorb]⟩
    exact absurd h (Nat.not_le.2 h')
  | q :: l, D, h => by
    have h' := List.pairwise_cons.1 h
    by_cases c : q.1 ≤ D
    · have e : absorb (q :: l) D = absorb l (max D (q.1 + q.2)) := by rw [absorb, if_pos c]
      rw [e]
      obtain ⟨a1, a2, a3, a4⟩ := absorb_spec (l := l) (D := max D (q.1 + q.2)) h'.2
      have le := absorb_le l (max D (q.1 + q.2))
      refine ⟨fun x hx hl => ?_, fun i hi hl => ?_, fun x => ?_, a4⟩
      · rcases List.mem_cons.1 hx with rfl | hx
        · omega
        · exact a1 x hx hl
      · by_cases hm : max D (q.1 + q.2) ≤ i
        · obtain ⟨x, hx, h1⟩ := a2 i hm hl
          exact ⟨x, List.mem_cons_of_mem _ hx, h1⟩
        · exact ⟨q, List.mem_cons_self, by omega, by omega⟩
      · rw [a3 x, List.mem_cons]
        constructor
        · rintro ⟨a, b⟩; exact ⟨.inr a, b⟩
        · rintro ⟨rfl | a, b⟩
          · omega
          · exact ⟨a, b⟩
    · have all : ∀ x ∈ q :: l, D < x.1 := by
        intro x hx
        rcases List.mem_cons.1 hx with rfl | hx
        · omega
        · have := h'.1 x hx; unfold bef at this; omega
      rw [absorb_none all]
      exact ⟨fun x hx hl => absurd (all x hx) (by show ¬ D < x.1; simp only at hl; omega), fun i hi hl => absurd hi (by simp only at hl; omega), fun x => ⟨fun hx => ⟨hx, all x hx⟩, fun hx => hx.1⟩, h⟩

/-- an inbox that knows the packets S and no others -/
structure Can (S : P → Prop) (s : Nat × List P) : Prop where
  c1 : ∀ p, S p → p.1 ≤ s.1 → p.1 + p.2 ≤ s.1
  c2 : ∀ i, i < s.1 → ∃ p, S p ∧ p.1 ≤ i ∧ i < p.1 + p.2
  c3 : ∀ p, p ∈ s.2 ↔ S p ∧ s.1 < p.1
  c4 : s.2.Pairwise bef

theorem can_nil : Can (fun _ => False) (0, []) :=
  ⟨fun _ h => h.elim, fun _ h => absurd h (Nat.not_lt_zero _), fun p => by simp, List.Pairwise.nil⟩
theorem can_rcv {S : P → Prop} {s : Nat × List P} (h : Can S s) (p : P) : Can (fun q => S q ∨ q = p) (rcv s p) := by
  obtain ⟨c1, c2, c3, c4⟩ := h
  unfold rcv
  by_cases d : s.1 < p.1
  · rw [if_pos d]
    refine ⟨fun q hq hl => ?_, fun i hi => ?_, fun q => ?_, ?_⟩
    · rcases hq with hq | rfl
      · exact c1 q hq hl
      · simp only at hl; omega
    · obtain ⟨q, hq, h1⟩ := c2 i hi
      exact ⟨q, .inl hq, h1⟩
    · by_cases m : p ∈ s.2
      · simp only [if_pos m]
        rw [c3 q]
        constructor
        · rintro ⟨a, b⟩; exact ⟨.inl a, b⟩
        · rintro ⟨a | rfl, b⟩
          · exact ⟨a, b⟩
          · exact (c3 _).1 m
      · simp only [if_neg m]
        rw [mem_put, c3 q]
        constructor
        · rintro (rfl | ⟨a, b⟩)
          · exact ⟨.inr rfl, d⟩
          · exact ⟨.inl a, b⟩
        · rintro ⟨a | rfl, b⟩
          · exact .inr ⟨a, b⟩
          · exact .inl rfl
    · by_cases m : p ∈ s.2
      · simp only [if_pos m]; exact c4
      · simp only [if_neg m]; exact put_sorted c4 m
  · rw [if_neg d]
    obtain ⟨a1, a2, a3, a4⟩ := absorb_spec (l := s.2) (D := max s.1 (p.1 + p.2)) c4
    have le := absorb_le s.2 (max s.1 (p.1 + p.2))
    refine ⟨fun q hq hl => ?_, fun i hi => ?_, fun q => ?_, a4⟩
    · rcases hq with hq | rfl
      · by_cases b : q.1 ≤ s.1
        · have := c1 q hq b; omega
        · exact a1 q ((c3 q).2 ⟨hq, by omega⟩) hl
      · omega
    · by_cases b : i < s.1
      · obtain ⟨q, hq, h1⟩ := c2 i b
        exact ⟨q, .inl hq, h1⟩
      · by_cases b' : i < p.1 + p.2
        · exact ⟨p, .inr rfl, by omega, b'⟩
        · obtain ⟨q, hq, h1⟩ := a2 i (by omega) hi
          exact ⟨q, .inl ((c3 q).1 hq).1, h1⟩
    · rw [a3 q, c3 q]
      constructor
      · rintro ⟨⟨a, _⟩, b⟩; exact ⟨.inl a, b⟩
      · rintro ⟨a | rfl, b⟩
        · exact ⟨⟨a, by omega⟩, b⟩
        · omega
theorem sorted_ext : ∀ {l m : List P}, l.Pairwise bef → m.Pairwise bef → (∀ x, x ∈ l ↔ x ∈ m) → l = m
  | [], [], _, _, _ => rfl
  | [], y :: m, _, _, h => absurd ((h y).2 List.mem_cons_self) (by simp)
  | x :: l, [], _, _, h => absurd ((h x).1 List.mem_cons_self) (by simp)
  | x :: l, y :: m, hl, hm, h => by
    have hl' := List.pairwise_cons.1 hl
    have hm' := List.pairwise_cons.1 hm
    have e : x = y := by
      rcases List.mem_cons.1 ((h x).1 List.mem_cons_self) with e | e
      · exact e
      · rcases List.mem_cons.1 ((h y).2 List.mem_cons_self) with e' | e'
        · exact e'.symm
        · exact (bef_irr (bef_trans (hm'.1 x e) (hl'.1 y e'))).elim
    subst e
    congr 1
    refine sorted_ext hl'.2 hm'.2 fun z => ⟨fun hz => ?_, fun hz => ?_⟩
    · rcases List.mem_cons.1 ((h z).1 (List.mem_cons_of_mem _ hz)) with e | e
      · subst e; exact (bef_irr (hl'.1 _ hz)).elim
      · exact e
    · rcases List.mem_cons.1 ((h z).2 (List.mem_cons_of_mem _ hz)) with e | e
      · subst e; exact (bef_irr (hm'.1 _ hz)).elim
      · exact e
theorem can_le {S : P → Prop} {s t : Nat × List P} (h : Can S s) (g : Can S t) : s.1 ≤ t.1 := by
  refine Nat.le_of_not_lt fun c => ?_
  obtain ⟨p, hp, h1, h2⟩ := h.c2 t.1 c
  have := g.c1 p hp h1
  omega
theorem can_eq {S : P → Prop} {s t : Nat × List P} (h : Can S s) (g : Can S t) : s = t := by
  have e : s.1 = t.1 := Nat.le_antisymm (can_le h g) (can_le g h)
  refine Prod.ext e (sorted_ext h.c4 g.c4 fun x => ?_)
  rw [h.c3, g.c3, e]
theorem can_iff {S T : P → Prop} {s : Nat × List P} (h : Can S s) (e : ∀ p, S p ↔ T p) : Can T s := by
  have : S = T := funext fun p => propext (e p)
  exact this ▸ h
/-- the same packet again -/
theorem rcv_again {S : P → Prop} {s : Nat × List P} (h : Can S s) (p : P) : rcv (rcv s p) p = rcv s p :=
  can_eq (can_iff (can_rcv (can_rcv h p) p) fun _ => ⟨fun a => a.elim id .inr, .inl⟩) (can_rcv h p)
/-- two packets in both orders -/
theorem rcv_swap {S : P → Prop} {s : Nat × List P} (h : Can S s) (p q : P) : rcv (rcv s p) q = rcv (rcv s q) p :=
  can_eq (can_rcv (can_rcv h p) q) (can_iff (can_rcv (can_rcv h q) p) fun _ =>
    ⟨fun a => a.elim (fun b => b.elim (fun c => .inl (.inl c)) .inr) (fun c => .inl (.inr c)), fun a => a.elim (fun b => b.elim (fun c => .inl (.inl c)) .inr) (fun c => .inl (.inr c))⟩)
theorem rcv_le (s : Nat × List P) (p : P) : s.1 ≤ (rcv s p).1 := by
  unfold rcv
  split
  · exact Nat.le_refl _
  · have := absorb_le s.2 (max s.1 (p.1 + p.2)); omega
theorem rcv_length (s : Nat × List P) (p : P) : (rcv s p).2.length ≤ s.2.length + 1 := by
  unfold rcv
  split
  · show (if p ∈ s.2 then s.2 else put p s.2).length ≤ _
    split
    · omega
    · rw [put_length]; omega
  · have := absorb_length s.2 (max s.1 (p.1 + p.2)); omega
theorem can_top {S : P → Prop} {s : Nat × List P} (h : Can S s) {n : Nat} (g : ∀ p, S p → p.1 + p.2 ≤ n) : s.1 ≤ n := by
  refine Nat.le_of_not_lt fun c => ?_
  obtain ⟨p, hp, h1, h2⟩ := h.c2 n c
  have := g p hp
  omega
end Go.Proofs.Ytglpnbcockancaa.Canon
