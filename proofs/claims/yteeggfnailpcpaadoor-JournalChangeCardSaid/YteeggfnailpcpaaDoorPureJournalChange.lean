/- JournalChange in plain Lean: over the printed functions, for all lists of nodes and positions. -/
import Derived.Test.YteeggfnailpcpaaDoorJouW
import Derived.Test.YteeggfnailpcpaaDoorJouB
import Derived.Test.YteeggfnailpcpaaDoorQx25
namespace Go.Proofs.YteeggfnailpcpaaDoor.Jou
open Go.RowKit Go.Proofs.YteeggfnailpcpaaDoor.Q Go.Proofs.YteeggfnailpcpaaDoorW.PrintWords Go.Proofs.YteeggfnailpcpaaDoorW.PrintLast Go.Proofs.YteeggfnailpcpaaDoorW.PrintMore
open Go.Proofs.YteeggfnailpcpaaDoor.Cod (Bytes enc Ok Wf Fit w64 wU bytes_append)
open Go.Proofs.YteeggfnailpcpaaDoor.Dig (be8 addB iv bv U64 be8_length be8_bytes addB_append iv_inj addB_change)
theorem cut_pos' {x : Int} {m : Nat} (hx : 0 ≤ x) (hm : 0 < m) : ∃ q : Nat, Int.tmod x (m : Int) = (q : Int) ∧ q < m := by
  rw [Int.tmod_eq_emod_of_nonneg hx]
  have h1 := Int.emod_nonneg x (show (m : Int) ≠ 0 by omega)
  have h2 := Int.emod_lt_of_pos x (show (0 : Int) < (m : Int) by omega)
  exact ⟨(x % (m : Int)).toNat, by omega, by omega⟩
theorem rd_app (P l : List Int) (t : Nat) (h : t < l.length) : rd (P ++ l) ((P.length + t : Nat) : Int) = l[t] := by
  rw [rdI _ _ (by rw [List.length_append]; omega), List.getElem_append_right (by omega)]
  simp
theorem bytes_set {l : List Int} (h : Bytes l) (i : Nat) {y : Int} (hy : 0 ≤ y ∧ y < 256) : Bytes (l.set i y) := by
  intro x hx
  rcases List.mem_or_eq_of_mem_set hx with h1 | rfl
  · exact h x h1
  · exact hy
theorem getD_getElem (l : List Int) (i : Nat) (h : i < l.length) : l.getD i 0 = l[i] := by rw [List.getD_eq_getElem?_getD, List.getElem?_eq_getElem h]; rfl
/-- A changed byte behind the length of an entry is noticed by its digest. -/
theorem ent_change {n : S43} (hn : Fits n) (d : Int) (T : List Int) {p : Nat} (h4 : 4 ≤ p) (hp : p < (en n d).length) {y : Int} (hy : 0 ≤ y ∧ y < 256) (hne : (en n d)[p] ≠ y) : ent ((en n d).set p y ++ T) d = .error 12 := by
  have hl := hn.2
  have hbl := body_len n
  have hel := en_len n d
  have hBo := body_bytes hn.1
  have e4 : ((en n d).set p y ++ T).take 4 = b4 ((enc 8 n).length : Int) := by
    rw [List.take_append_of_le_length (by rw [List.length_set]; omega), List.take_set, List.set_eq_of_length_le (by rw [List.length_take]; omega)]
    have := en_take4 n d []
    rwa [List.append_nil] at this
  have eM : ((en n d).set p y ++ T).take (4 + (enc 8 n).length) = (body n).set p y := by
    rw [List.take_append_of_le_length (by rw [List.length_set]; omega), List.take_set]
    unfold en
    rw [List.take_append_of_le_length (by omega), List.take_of_length_le (by omega)]
  have eD : (((en n d).set p y ++ T).take (4 + (enc 8 n).length + 8)).drop (4 + (enc 8 n).length) = ((en n d).set p y).drop (4 + (enc 8 n).length) := by
    rw [List.take_append_of_le_length (by rw [List.length_set]; omega), List.take_of_length_le (by rw [List.length_set]; omega)]
  unfold ent
  rw [e4, num_b4 (by omega) (by omega), Int.toNat_natCast, if_neg (by rw [List.length_append, List.length_set]; omega), if_neg (by omega), if_neg (by rw [List.length_append, List.length_set]; omega), eM, eD]
  refine if_neg ?_
  by_cases hpM : p < 4 + (enc 8 n).length
  · -- the payload
    have ed : ((en n d).set p y).drop (4 + (enc 8 n).length) = be8 (chain d (body n)) := by
      rw [List.drop_set_of_lt hpM]
      unfold en
      rw [List.drop_append_of_le_length (by omega), List.drop_of_length_le (by omega), List.nil_append]
    rw [ed, num_be8 (chain_u64 _ _)]
    intro h
    unfold chain at h
    have h := iv_inj h
    rw [addB_append, addB_append] at h
    have hc := (addB_change (H := addB Dig.start (be8 d)) hBo hy (by omega)).1 h
    rw [getD_getElem _ _ (by omega)] at hc
    refine hne ?_
    have e2 : ∀ (l : List Int) (hl : l = body n ++ be8 (chain d (body n))) (hh : p < l.length), l[p] = (body n)[p]'(by omega) := by
      intro l hl hh
      subst hl
      rw [List.getElem_append_left]
    rw [e2 (en n d) rfl hp]
    exact hc
  · -- the digest
    rw [List.set_eq_of_length_le (by omega)]
    have ed : ((en n d).set p y).drop (4 + (enc 8 n).length) = (be8 (chain d (body n))).set (p - (4 + (enc 8 n).length)) y := by
      unfold en
      rw [List.set_append_right p y (by omega), hbl, List.drop_append_of_le_length (by omega), List.drop_of_length_le (by omega), List.nil_append]
    rw [ed]
    intro h
    have hb8 : Bytes ((be8 (chain d (body n))).set (p - (4 + (enc 8 n).length)) y) := bytes_set (be8_bytes _) _ hy
    have h8 := be8_num (by rw [List.length_set, be8_length]) hb8
    rw [← h] at h8
    refine hne ?_
    have hi : p - (4 + (enc 8 n).length) < (be8 (chain d (body n))).length := by rw [be8_length]; omega
    have hg : (be8 (chain d (body n)))[p - (4 + (enc 8 n).length)] = y := by
      have e := congrArg (fun l : List Int => l[p - (4 + (enc 8 n).length)]?) h8
      rw [List.getElem?_set_self hi, List.getElem?_eq_getElem hi] at e
      exact Option.some.inj e
    have e2 : (en n d)[p] = (be8 (chain d (body n)))[p - (4 + (enc 8 n).length)] := by
      have : ∀ (l : List Int) (hl : l = body n ++ be8 (chain d (body n))) (hh : p < l.length), l[p] = (be8 (chain d (body n)))[p - (4 + (enc 8 n).length)] := by
        intro l hl hh
        subst hl
        rw [List.getElem_append_right (by omega)]
        simp only [hbl]
      exact this (en n d) rfl hp
    rw [e2, hg]
theorem Pure.JournalChange (ns : List S43) (x : Int) (y : Int) (hw : ∀ n ∈ ns, Wf 8 n) (hl : ns.length < 9223372036854775808) (hx : 0 ≤ x ∧ x < 65536) (hy : 0 ≤ y ∧ y < 256) : ∃ k, examboardlaw49_JournalChange.f k ns x y = some true := by
  refine ⟨ns.length + 800002, ?_⟩
  obtain ⟨c, hF, hc, hW⟩ := written_is (k := ns.length + 800002) hw hl (by omega)
  have hB := ents_bytes c d0 hF
  have hL := ents_len c d0 hF
  unfold examboardlaw49_JournalChange.f
  rw [hW, Option.bind_some]
  dsimp only
  rw [if_pos rfl, w64 (i := x) (by omega) (by omega)]
  by_cases hL0 : ((ents c d0).length : Int) = 0
  · rw [if_pos hL0, awake_is (by omega)]
    rfl
  rw [if_neg hL0]
  obtain ⟨q, hq, hq1⟩ := cut_pos' (x := x) (m := (ents c d0).length) hx.1 (by omega)
  rw [hq, if_pos (by omega), if_pos (by omega)]
  by_cases hsame : rd (ents c d0) (q : Int) = y
  · rw [if_pos hsame, awake_is (by omega)]
    rfl
  rw [if_neg hsame]
  obtain ⟨j, hj, h1, h2⟩ := complete_ex c q
  rw [complete_is hF hc hj h1 h2 (by omega), Option.bind_some]
  have hFj : ∀ n ∈ c.take j, Fits n := fun n hn => hF n (List.mem_of_mem_take hn)
  have hlj : (c.take j).length = j := by rw [List.length_take]; omega
  have hjlt : j < c.length := by
    rcases Nat.lt_or_ge j c.length with h | h
    · exact h
    · rw [List.take_of_length_le h] at h1; omega
  obtain ⟨n, r, hd⟩ : ∃ n r, c.drop j = n :: r := ⟨c[j], c.drop (j + 1), List.drop_eq_getElem_cons hjlt⟩
  have hn : Fits n := hF n (List.mem_of_mem_drop (by rw [hd]; simp))
  have ht : c.take (j + 1) = c.take j ++ [n] := by
    have : c[j] = n := by have := List.drop_eq_getElem_cons hjlt; rw [hd] at this; exact (List.cons.inj this).1.symm
    rw [List.take_add_one, List.getElem?_eq_getElem hjlt, this]; rfl
  have h3 := h2 hjlt
  rw [ht, ents_append, List.length_append] at h3
  simp only [ents, List.append_nil] at h3
  have hlog : ents c d0 = ents (c.take j) d0 ++ (en n (dl (c.take j) d0) ++ ents r (chain (dl (c.take j) d0) (body n))) := by
    have e1 : ents c d0 = ents (c.take j) d0 ++ ents (c.drop j) (dl (c.take j) d0) := by rw [← ents_append, List.take_append_drop]
    rw [e1, hd]
    rfl
  have hdU : U64 (dl (c.take j) d0) := dl_u64 _ _ d0_u64
  have hBP := ents_bytes (c.take j) d0 hFj
  have hBT : Bytes (ents r (chain (dl (c.take j) d0) (body n))) := ents_bytes r _ (fun z hz => hF z (List.mem_of_mem_drop (i := j) (by rw [hd]; simp [hz])))
  have hBe := en_bytes hn.1 (dl (c.take j) d0)
  generalize hT : ents r (chain (dl (c.take j) d0) (body n)) = T at hlog hBT
  have hRP := R_ents hFj (by omega)
  generalize hP : ents (c.take j) d0 = P at h1 h2 h3 hlog hBP hRP
  have hjr := fun t => jr_ents (c.take j) 300 d0 t hFj (by omega)
  rw [hP, hlj] at hjr
  have hne2 := (endsOf_at c (j - 1))
  generalize hdj : dl (c.take j) d0 = dj at hlog h3 hdU hBe hRP hjr
  have hEn := en_len n dj
  have hp : q - P.length < (en n dj).length := by omega
  have hset : (ents c d0).set q y = P ++ ((en n dj).set (q - P.length) y ++ T) := by
    rw [hlog, List.set_append_right q y h1, List.set_append_left (q - P.length) y hp]
  have hold : (en n dj)[q - P.length] ≠ y := by
    intro h
    refine hsame ?_
    rw [hlog, show (q : Int) = ((P.length + (q - P.length) : Nat) : Int) from by omega, rd_app P (en n dj ++ T) (q - P.length) (by rw [List.length_append]; omega), List.getElem_append_left hp]
    exact h
  have hlb : ((en n dj).set (q - P.length) y ++ T).length = (en n dj).length + T.length := by rw [List.length_append, List.length_set]
  have hLL : (ents c d0).length = P.length + ((en n dj).length + T.length) := by rw [hlog, List.length_append, List.length_append]
  have hBb : Bytes ((en n dj).set (q - P.length) y ++ T) := bytes_append.2 ⟨bytes_set hBe _ hy, hBT⟩
  have hBB : Bytes (P ++ ((en n dj).set (q - P.length) y ++ T)) := bytes_append.2 ⟨hBP, hBb⟩
  have hRB := hjr ((en n dj).set (q - P.length) y ++ T)
  have hr1 := Read_is (k := ns.length + 800001) hBB (by rw [List.length_append]; omega) (by omega)
  unfold R at hr1
  rw [hRB] at hr1
  obtain ⟨m, hm⟩ : ∃ m, 300 - j = m + 1 := ⟨300 - j - 1, by omega⟩
  have hbne : (en n dj).set (q - P.length) y ++ T ≠ [] := by intro h; have := congrArg List.length h; rw [hlb, List.length_nil] at this; omega
  have main : examboardlaw49_JournalChange.j0 (ns.length + 800002) y (ents c d0) c (q : Int) (j : Int) ((P.length : Nat) : Int) = some true := by
    simp only [examboardlaw49_JournalChange.j0, Option.bind_some, List.nil_append]
    rw [if_pos (by simp only [List.length_nil]; omega), if_pos (by omega), if_pos (by omega), Int.toNat_natCast, hset, hr1, Option.bind_some, hm, w64 (i := (P.length : Int) + 4) (by omega) (by omega), w64 (i := (P.length : Int) + 1) (by omega) (by omega), w64 (i := (P.length : Int) + 2) (by omega) (by omega), w64 (i := (P.length : Int) + 3) (by omega) (by omega)]
    by_cases h4 : (q : Int) ≥ (P.length : Int) + 4
    · have he := ent_change hn dj T (p := q - P.length) (by omega) hp hy hold
      rw [if_pos h4, if_pos (by omega), if_pos (by omega), Int.toNat_natCast, jr_err hbne he, List.append_nil, same_refl (by omega) (fun n hn => (hFj n hn).1) (by omega), Option.bind_some, if_pos rfl, if_pos (by simp), if_pos (by rfl), awake_is (by omega)]
      rfl
    rw [if_neg h4]
    cases he : ent ((en n dj).set (q - P.length) y ++ T) dj with
    | error e =>
      have hx := ent_err he
      rw [jr_err hbne he, List.append_nil, if_pos (by simp only [hlj]; omega), if_pos (by omega), if_pos (by omega), Int.toNat_natCast, same_refl (by omega) (fun n hn => (hFj n hn).1) (by omega), Option.bind_some, if_pos rfl, if_pos (by simp), if_neg (by simp only [Option.getD_some]; omega), awake_is (by omega)]
      rfl
    | ok v =>
      obtain ⟨n', m', d'⟩ := v
      obtain ⟨k1, k2, k3, k4, k5, k6, k7⟩ := ent_ok he
      rw [hlb] at k4
      rw [jr_ok he, if_neg (by simp only [List.length_append, List.length_cons, hlj]; omega)]
      generalize hb : (en n dj).set (q - P.length) y ++ T = b at hBb hBB hlb hset hRB hr1 hbne he k1 k2 k3 k4 k5 k6 k7
      obtain ⟨b0, b1, b2, b3, rest, rfl⟩ : ∃ b0 b1 b2 b3 rest, b = b0 :: b1 :: b2 :: b3 :: rest := by
        match b, k1 with
        | b0 :: b1 :: b2 :: b3 :: rest, _ => exact ⟨b0, b1, b2, b3, rest, rfl⟩
      have z0 := hBb b0 (by simp)
      have z1 := hBb b1 (by simp)
      have z2 := hBb b2 (by simp)
      have z3 := hBb b3 (by simp)
      have e0 : rd (P ++ b0 :: b1 :: b2 :: b3 :: rest) (P.length : Int) = b0 := rd_app P _ 0 (by simp)
      have e1 : rd (P ++ b0 :: b1 :: b2 :: b3 :: rest) ((P.length : Int) + 1) = b1 := rd_app P _ 1 (by simp)
      have e2 : rd (P ++ b0 :: b1 :: b2 :: b3 :: rest) ((P.length : Int) + 2) = b2 := rd_app P _ 2 (by simp)
      have e3 : rd (P ++ b0 :: b1 :: b2 :: b3 :: rest) ((P.length : Int) + 3) = b3 := rd_app P _ 3 (by simp)
      have en4 : num ((b0 :: b1 :: b2 :: b3 :: rest).take 4) = ((b0 * 256 + b1) * 256 + b2) * 256 + b3 := num4 b0 b1 b2 b3
      rw [e0, e1, e2, e3]
      have hsz : wrap64 ((P.length : Int) + 4 + (wrap64 ((wrap64 ((wrap64 ((wrap64 ((wrap64 b0) * 16777216)) + (wrap64 ((wrap64 b1) * 65536)))) + (wrap64 ((wrap64 b2) * 256)))) + (wrap64 b3)))) = ((P.length + (m' - 8) : Nat) : Int) := by
        rw [w64 (i := b0) (by omega) (by omega), w64 (i := b1) (by omega) (by omega), w64 (i := b2) (by omega) (by omega), w64 (i := b3) (by omega) (by omega), w64 (i := b0 * 16777216) (by omega) (by omega), w64 (i := b1 * 65536) (by omega) (by omega), w64 (i := b2 * 256) (by omega) (by omega),
          w64 (i := b0 * 16777216 + b1 * 65536) (by omega) (by omega), w64 (i := b0 * 16777216 + b1 * 65536 + b2 * 256) (by omega) (by omega), w64 (i := b0 * 16777216 + b1 * 65536 + b2 * 256 + b3) (by omega) (by omega), w64 (by omega) (by omega)]
        omega
      rw [hsz, w64 (i := ((P.length + (m' - 8) : Nat) : Int) + 8) (by omega) (by omega)]
      have hm8 : 12 ≤ m' := (ent_pos he).1
      have hr4 := (Last_is (k := ns.length + 800001) hBP (by omega) (by omega)).1 (by rw [hRP])
      rw [hRP] at hr4
      dsimp only at hr4
      have t1 : (P ++ b0 :: b1 :: b2 :: b3 :: rest).take P.length = P := by rw [List.take_append_of_le_length (Nat.le_refl _), List.take_length]
      have t2 : ((P ++ b0 :: b1 :: b2 :: b3 :: rest).take (P.length + (m' - 8))).drop P.length = (b0 :: b1 :: b2 :: b3 :: rest).take (m' - 8) := by rw [List.drop_take, List.drop_append_of_le_length (Nat.le_refl _), List.drop_length, List.nil_append, Nat.add_sub_cancel_left]
      have t3 : ((P ++ b0 :: b1 :: b2 :: b3 :: rest).take (P.length + (m' - 8) + 8)).drop (P.length + (m' - 8)) = ((b0 :: b1 :: b2 :: b3 :: rest).take m').drop (m' - 8) := by
        rw [show P.length + (m' - 8) + 8 = P.length + m' from by omega, List.take_append, List.take_of_length_le (by omega), Nat.add_sub_cancel_left, List.drop_append, List.drop_of_length_le (by omega), Nat.add_sub_cancel_left, List.nil_append]
      have l8 : (((b0 :: b1 :: b2 :: b3 :: rest).take m').drop (m' - 8)).length = 8 := by rw [List.length_drop, List.length_take]; omega
      have hbe : be8 d' = ((b0 :: b1 :: b2 :: b3 :: rest).take m').drop (m' - 8) := by rw [k6]; exact be8_num l8 (bytes_drop (bytes_take hBb _) _)
      have hch : digest_Chain.f (ns.length + 800001) dj ((b0 :: b1 :: b2 :: b3 :: rest).take (m' - 8)) = some d' := by
        rw [Dig.Chain_is hdU (by rw [List.length_take]; omega) (by rw [List.length_take]; omega) (by omega), k5]
        rfl
      have hdU' : U64 d' := by rw [k5]; exact chain_u64 _ _
      have hnum : digest_Number.f (ns.length + 800001) 0 d' = some (iv (addB (bv 0) (be8 d'))) := Dig.Number_is ⟨by decide, by decide⟩ hdU' (by omega)
      have hadd : digest_Add.f (ns.length + 800001) 0 (((b0 :: b1 :: b2 :: b3 :: rest).take m').drop (m' - 8)) = some (iv (addB (bv 0) (((b0 :: b1 :: b2 :: b3 :: rest).take m').drop (m' - 8)))) := Dig.Add_is ⟨by decide, by decide⟩ (by omega) (by omega)
      rw [if_pos (by omega), if_pos (by omega), if_pos (by omega), if_pos (by omega), if_pos (by omega), if_pos (by omega), if_pos (by omega), if_pos (by omega), if_neg (by omega), if_pos (by omega), Int.toNat_natCast, t1, hr4, Option.bind_some, if_pos (by omega), if_pos (by omega), Int.toNat_natCast, t2, hch, Option.bind_some]
      dsimp only
      rw [if_pos rfl, hnum, Option.bind_some, if_pos (by omega), if_pos (by omega), if_pos (by omega), show (((P.length + (m' - 8) : Nat) : Int) + 8).toNat = P.length + (m' - 8) + 8 from by omega, t3, hadd, Option.bind_some, if_pos (by rw [hbe]), awake_is (by omega)]
      rfl
  by_cases h0 : (j : Int) > 0
  · have he : rd (endsOf c) (wrap64 ((j : Int) - 1)) = ((P.length : Nat) : Int) := by
      rw [w64 (by omega) (by omega), show (j : Int) - 1 = ((j - 1 : Nat) : Int) from by omega, hne2 (by omega), show j - 1 + 1 = j from by omega, hP]
    rw [if_pos h0, if_pos (by rw [w64 (by omega) (by omega)]; omega), if_pos (by rw [w64 (by omega) (by omega), endsOf_len]; omega), he]
    exact main
  · obtain rfl : j = 0 := by omega
    rw [if_neg h0]
    have hP0 : P.length = 0 := by rw [← hP]; rfl
    rw [hP0] at main
    exact main
end Go.Proofs.YteeggfnailpcpaaDoor.Jou
