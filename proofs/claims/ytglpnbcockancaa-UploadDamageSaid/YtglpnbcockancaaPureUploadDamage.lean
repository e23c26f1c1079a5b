import Derived.Test.YtglpnbcockancaaQx16
import Derived.Test.YtglpnbcockancaaRcv
import Derived.Test.YtglpnbcockancaaExample
namespace Go.Proofs.Ytglpnbcockancaa.Pure
open Go.RowKit Go.Proofs.Ytglpnbcockancaa.Q Go.Proofs.Ytglpnbcockancaa.Dig Go.Proofs.Ytglpnbcockancaa.Upl Go.Proofs.YtglpnbcockancaaW.PrintWords Go.Proofs.YtglpnbcockancaaW.PrintLast

theorem sum_change {s a : Int} {l : List Int} {i : Nat} {x : Int} (hl : Bytes l) (hx : 0 ≤ x ∧ x < 256) (hi : i < l.length) : sumP s a l = sumP s a (l.set i x) ↔ l.getD i 0 = x := by
  unfold sumP
  rw [addB_append, addB_append]
  constructor
  · intro h; exact (addB_change hl hx hi).1 (iv_inj h).symm
  · intro h; rw [(addB_change hl hx hi).2 h]
theorem ck_ok {s a : Int} {l : List Int} {x : Int} (h : okP s a l.length = true) : (ck s a l x = 12 ↔ x ≠ sumP s a l) ∧ (ck s a l x = 0 ↔ x = sumP s a l) := by
  unfold ck
  rw [if_pos h]
  split <;> rename_i g
  · exact ⟨⟨fun h => absurd h (by decide), fun h => absurd g h⟩, ⟨fun _ => g, fun _ => rfl⟩⟩
  · exact ⟨⟨fun _ => g, fun _ => rfl⟩, ⟨fun h => absurd h (by decide), fun h => absurd h g⟩⟩
theorem rc_12 {a : Int} {l : List Int} {x : Int} (h : okP 5 a l.length = true) : rc 5 a l x = 12 ↔ x ≠ sumP 5 a l := by
  have g := ck_ok (x := x) h
  unfold rc
  by_cases e : ck 5 a l x = 0
  · rw [if_pos e, if_pos rfl]
    exact ⟨fun h => absurd h (by decide), fun h => absurd (g.2.1 e) h⟩
  · rw [if_neg e]; exact g.1
theorem rc_6 (a : Int) (l : List Int) (x : Int) : rc 6 a l x ≠ 0 := by
  unfold rc
  by_cases e : ck 6 a l x = 0
  · rw [if_pos e, if_neg (by decide)]; decide
  · rw [if_neg e]; exact e
theorem ne_of {p q : Bool} (h : p = q) : ¬ ((p != q) = true) := by subst h; simp
theorem UploadDamage : examboardlaw53_UploadDamage.Pure := by
  intro l0 a1 a2 a3 a4 h1 h2 h3 h4 h5 h6 h7
  obtain ⟨k, hk⟩ : ∃ k : Nat, 1060000 ≤ k := ⟨_, Nat.le_refl _⟩
  refine ⟨k, ?_⟩
  have b1 : 0 ≤ a1 ∧ a1 < 65536 := by simp [Lit.wf, IntKind.min, IntKind.max, IntKind.bits, IntKind.signed] at h4; omega
  have b2 : 0 ≤ a2 ∧ a2 < 65536 := by simp [Lit.wf, IntKind.min, IntKind.max, IntKind.bits, IntKind.signed] at h5; omega
  have b3 : 0 ≤ a3 ∧ a3 < 256 := by simp [Lit.wf, IntKind.min, IntKind.max, IntKind.bits, IntKind.signed] at h6; omega
  have hb := bytes_of_wf h3
  have em : mn (l0.length : Int) 2000 = ((min l0.length 2000 : Nat) : Int) := mn_nat _ 2000
  unfold examboardlaw53_UploadDamage.f
  rw [em, if_pos (by omega), if_pos (by omega), Int.toNat_natCast, w64 (by omega) (by omega), w64 (by omega) (by omega)]
  generalize hd : l0.take (min l0.length 2000) = b
  have lb : b.length ≤ 2000 := by rw [← hd, List.length_take]; omega
  have bb : Bytes b := by intro x hx; rw [← hd] at hx; exact hb x (List.mem_of_mem_take hx)
  have n5 : nw 5 = (5, [], [], 0) := by unfold nw; rw [if_pos (by omega)]
  rw [bound (New_is 5), bound (Packet_is 5 a1 b (by omega) (by omega)), n5]
  simp only []
  rw [if_pos trivial]
  by_cases n : 0 < b.length
  · have ok : okP 5 a1 b.length = true := by rw [okP_iff]; omega
    unfold pack
    rw [if_pos ok]
    simp only []
    rw [if_neg (by rw [decide_eq_true (show (b.length : Int) > 0 by omega)]; decide), if_pos trivial, if_pos trivial, Option.bind_some, List.nil_append, if_pos (by simp; omega), Option.bind_some, if_neg (by omega)]
    have hm : Int.tmod a2 (b.length : Int) = ((a2.toNat % b.length : Nat) : Int) := by
      obtain ⟨c, rfl⟩ : ∃ c : Nat, a2 = c := ⟨a2.toNat, by omega⟩
      rfl
    have hlt : a2.toNat % b.length < b.length := Nat.mod_lt _ n
    rw [hm]
    generalize a2.toNat % b.length = i at hlt
    rw [if_pos (by omega), if_pos (by omega), Int.toNat_natCast]
    obtain ⟨r1, e1, c1⟩ := Receive_nil (k := k) 5 a1 (b.set i a3) (sumP 5 a1 b) (by rw [List.length_set]; omega) (by omega) (by omega)
    obtain ⟨r2, e2, c2⟩ := Receive_nil (k := k) 5 a1 b a4 (by omega) (by omega) (by omega)
    obtain ⟨r3, e3, c3⟩ := Receive_nil (k := k) 6 a1 b (sumP 5 a1 b) (by omega) (by omega) (by omega)
    rw [bound e1, bound e2, if_pos (by omega), c1, c2, rd_at b i hlt]
    have x1 : rc 5 a1 (b.set i a3) (sumP 5 a1 b) = 12 ↔ a3 ≠ b[i] := by
      rw [rc_12 (by rw [List.length_set]; exact ok), Ne, sum_change bb b3 hlt, List.getD_eq_getElem?_getD, List.getElem?_eq_getElem hlt, Option.getD_some]
      exact ⟨fun h g => h g.symm, fun h g => h g.symm⟩
    have x2 := rc_12 (x := a4) ok
    rw [if_neg (ne_of ?_), if_neg (ne_of ?_), bound e3, c3, if_neg (rc_6 _ _ _), bound (awake_is (by omega))]
    · by_cases e : a4 = sumP 5 a1 b
      · rw [bne_eq_false_iff_eq.2 e, beq_eq_false_iff_ne.2 fun h => x2.1 h e]
      · rw [bne_iff_ne.2 e, beq_iff_eq.2 (x2.2 e)]
    · by_cases e : a3 = b[i]
      · rw [bne_eq_false_iff_eq.2 e, beq_eq_false_iff_ne.2 fun h => x1.1 h e]
      · rw [bne_iff_ne.2 e, beq_iff_eq.2 (x1.2 e)]
  · have ok : ¬ okP 5 a1 b.length = true := by rw [okP_iff]; omega
    unfold pack
    rw [if_neg ok]
    simp only []
    rw [if_neg (by rw [decide_eq_false (show ¬ (b.length : Int) > 0 by omega)]; decide), if_neg (by decide), if_pos trivial, bound (awake_is (by omega))]

end Go.Proofs.Ytglpnbcockancaa.Pure
