import Derived.Test.YtpmnjjmngogkkaaGreatDoorMag7
set_option linter.unusedVariables false
namespace Go.Proofs.YtpmnjjmngogkkaaGreatDoor
open Go Go.RowKit

theorem gcd_c {S : Nat → Prop} {w : World} {va vb : Value} {a b : Nat} (hS : Up S w) (ha : NatV S 127 .u32 w va a) (hb : NatV S 127 .u32 w vb b) (hla : dl a ≤ 1099511627000) (hlb : dl b ≤ 1099511627000) :
    Gives Tryz.prog 99 [va, vb] w fun v' w' => Ext w w' ∧ NatV S 127 .u32 w' v' (Nat.gcd a b) := by
  refine gives_of Tryz.func99 rfl rfl rfl ?_
  repeat (first | refine wp_seq_region ?_ | refine wp_region ?_ | refine r_assign (by conv => (lhs; whnf)) ?_ | refine r_nil ?_ | refine q_then ?_)
  try refine wp_seq_block ?_
  refine wp_for [(0, 1), (5, 17)] (fun k ρ w' => ∃ (x : Nat) (vx vy : Value), ρ 0 = vx ∧ ρ 1 = vy ∧ NatV S 127 .u32 w' vx x ∧ NatV S 127 .u32 w' vy k ∧ Nat.gcd x k = Nat.gcd a b ∧ dl x ≤ 1099511627000 ∧ dl k ≤ 1099511627000 ∧ Ext w w') b
    ⟨a, va, vb, rfl, rfl, ha, hb, rfl, hla, hlb, .refl⟩ ?_
  rintro y u w2 ⟨x, vx, vy, h0, h1, hx, hy, hg, hlx, hly, k2⟩
  refine wp_learn 0 h0 (wp_learn 1 h1 ?_)
  clear h0 h1
  repeat (first | refine wp_seq_region ?_ | refine wp_seq_seq ?_ | refine wp_region ?_ | refine r_move (by conv => (lhs; whnf)) ?_ | refine r_nil ?_ | refine q_then ?_ | refine r_len (by conv => (lhs; whnf)) (by assumption) ?_ | refine r_gtr rfl rfl ?_)
  try refine wp_seq_cond ?_
  refine wp_cond_dec rfl ?_ ?_ <;> intro hc
  · have hy0 : 0 < y := by
      rcases Nat.eq_zero_or_pos y with rfl | h
      · rw [dg_zero] at hc; simp at hc
      · exact h
    repeat (first | refine wp_seq_region ?_ | refine wp_region ?_ | refine r_move (by conv => (lhs; whnf)) ?_ | refine q_then ?_ | refine wp_block_seq ?_ | refine wp_skip ?_)
    refine r_call (over_c (hS.to k2) hx hy hlx hly hy0) rfl ?_
    rintro v3 w3 ⟨vq, vr, rfl, k3, hq, hr⟩
    have hml := dl_mono (Nat.le_of_lt (Nat.mod_lt x hy0))
    repeat (first | refine wp_region ?_ | refine r_move (by conv => (lhs; whnf)) ?_ | refine r_assign (by conv => (lhs; whnf)) ?_ | refine r_nil ?_ | refine q_then ?_ | refine q_block ?_ | refine r_extract rfl rfl ?_)
    refine ⟨by (repeat (first | refine agree_upd rfl ?_ | exact agree_over | refine agree_sub rfl ?_ | exact agree_refl)), x % y, Nat.mod_lt x hy0, y, vy, vr, rfl, rfl, hy.to k3, hr, ?_, hly, by omega, k2.trans k3⟩
    rw [Nat.gcd_comm, ← Nat.gcd_rec, Nat.gcd_comm, hg]
  · obtain rfl : y = 0 := dl_eq_zero.1 (by unfold dl; omega)
    rw [Nat.gcd_zero_right] at hg
    rw [← hg]
    repeat (first | refine wp_seq_region ?_ | refine wp_region ?_ | refine r_move (by conv => (lhs; whnf)) ?_ | refine r_assign (by conv => (lhs; whnf)) ?_ | refine r_nil ?_ | refine q_then ?_ | refine wp_ret ?_ | refine wp_exit ?_)
    exact end_tmp rfl (by conv => (lhs; whnf)) ⟨k2, hx⟩

@[irreducible] def Big : Nat := 2 ^ 100000
theorem big_def : Big = 2 ^ 100000 := by unfold Big; rfl
theorem big_low : 1000000000 ^ 3344 ≤ Big := by
  unfold Big
  exact Nat.le_of_ble_eq_true (by kernel_rfl)
theorem big_high : Big < 1000000000 ^ 3345 := by
  unfold Big
  exact Nat.le_of_ble_eq_true (by kernel_rfl)
/-- What is left of a power: p times s^k is 2^100000. -/
@[irreducible] def LeftB (p s k : Nat) : Prop := ∃ e, e = 100000 ∧ p * s ^ k = 2 ^ e
theorem leftB_gen (k : Nat) : ∃ e, e = k ∧ 1 * 2 ^ k = 2 ^ e := ⟨k, rfl, Nat.one_mul _⟩
theorem leftB_start : LeftB 1 2 100000 := by unfold LeftB; exact leftB_gen 100000
theorem big_of {p s k : Nat} (h : LeftB p s k) : p * s ^ k = Big := by
  unfold LeftB at h
  obtain ⟨e, rfl, h⟩ := h
  exact h.trans big_def.symm
theorem leftB_of {p s k : Nat} (h : p * s ^ k = Big) : LeftB p s k := by
  unfold LeftB
  exact ⟨100000, rfl, h.trans big_def⟩
theorem big_gt {x : Nat} (h : 1000000000 ^ x ≤ Big) : 0 < Big := Nat.lt_of_lt_of_le (Nat.pow_pos (by decide)) h
theorem big_gt0 : 0 < Big := @big_gt 3344 big_low
theorem pow_mono_b {i j : Nat} (h : i ≤ j) : 1000000000 ^ i ≤ 1000000000 ^ j := Nat.pow_le_pow_right (by decide) h
theorem big_half (p s k : Nat) : p * s ^ k = (if k % 2 = 1 then p * s else p) * (s * s) ^ (k / 2) := by
  conv => lhs; rw [← Nat.div_add_mod k 2, Nat.pow_add, Nat.pow_mul]
  split
  · rename_i h; rw [h, Nat.pow_one, Nat.pow_two, Nat.mul_comm ((s * s) ^ (k / 2)) s, ← Nat.mul_assoc]
  · rename_i h
    have h : k % 2 = 0 := by omega
    rw [h, Nat.pow_zero, Nat.mul_one, Nat.pow_two]

theorem isSmall_c {S : Nat → Prop} {w : World} {va : Value} {a : Nat} (hS : Up S w) (ha : NatV S 127 .u32 w va a) :
    Gives Tryz.prog 146 [va] w fun v' w' => v' = .bool (tst (a < Big)) ∧ Ext w w' := by
  refine gives_of Tryz.func146 rfl rfl rfl ?_
  repeat (first | refine wp_seq_region ?_ | refine wp_seq_seq ?_ | refine wp_region ?_ | refine r_move (by conv => (lhs; whnf)) ?_ | refine r_assign (by conv => (lhs; whnf)) ?_ | refine r_nil ?_ | refine q_then ?_ | refine r_len (by conv => (lhs; whnf)) (by assumption) ?_ | refine r_neq rfl rfl ?_)
  try refine wp_seq_cond ?_
  refine wp_cond_dec rfl ?_ ?_ <;> intro hc
  · repeat (first | refine wp_seq_region ?_ | refine wp_region ?_ | refine r_move (by conv => (lhs; whnf)) ?_ | refine r_assign (by conv => (lhs; whnf)) ?_ | refine r_nil ?_ | refine q_then ?_ | refine wp_ret ?_ | refine q_then_ret ?_ | refine r_len (by conv => (lhs; whnf)) (by assumption) ?_ | refine r_lss rfl rfl ?_)
    refine end_tmp rfl (by conv => (lhs; whnf)) ⟨congrArg Value.bool ?_, .refl⟩
    by_cases h : (dg a).length < 3345
    · have h2 : dl a ≤ 3344 := by unfold dl; omega
      have h4 : a < Big := Nat.lt_of_lt_of_le (lt_pow_dl a) (Nat.le_trans (pow_mono_b h2) big_low)
      rw [tst_true (by omega), tst_true h4]
    · have h1 := pow_le_of_canon (canon_dg a) (by rintro h0; rw [h0] at h; exact h (by decide))
      rw [nval_dg] at h1
      have h2 : 3345 ≤ (dg a).length - 1 := by omega
      have h4 : ¬ a < Big := Nat.not_lt.2 (Nat.le_of_lt (Nat.lt_of_lt_of_le big_high (Nat.le_trans (@pow_mono_b 3345 ((dg a).length - 1) h2) h1)))
      rw [tst_false (by omega), tst_false h4]
  · repeat (first | refine wp_seq_region ?_ | refine wp_region ?_ | refine wp_skip ?_)
    refine r_call (one_c (S := S) hS) rfl ?_
    rintro v1 w1 ⟨k1, h1⟩
    skip
    refine r_lit1 (by conv => (lhs; whnf)) rfl ?_
    intro w2 g k2 hb hg
    have h2 : NatV S 127 .u32 w2 (.slice (some ⟨g, 0, none⟩) 1 1) 2 := Row.of_blk (s := 1) (n := 1) (cap := 1) hb (hS g (by have := k1.size; omega)) (Nat.le_refl _) (by unfold maxLen; omega) rfl
    repeat (first | refine wp_seq_region ?_ | refine wp_seq_seq ?_ | refine wp_region ?_ | refine r_assign (by conv => (lhs; whnf)) ?_ | refine r_nil ?_ | refine q_then ?_)
    have hbd : dl Big ≤ 3345 := dl_le big_high
    try refine wp_seq_block ?_
    refine wp_for [(4, 6), (17, 29)] (fun k ρ w' => ∃ (p s : Nat) (vp vs : Value), ρ 6 = .int .i64 k ∧ ρ 4 = vp ∧ ρ 5 = vs ∧ k ≤ 100000 ∧ LeftB p s k ∧ 0 < s ∧ NatV S 127 .u32 w' vp p ∧ NatV S 127 .u32 w' vs s ∧ Ext w w') 100000 ?_ ?_
    · exact ⟨1, 2, v1, .slice (some ⟨g, 0, none⟩) 1 1, rfl, rfl, rfl, Nat.le_refl _, leftB_start, by decide, h1.to k2, h2, k1.trans k2⟩
    rintro k u w3 ⟨p, s, vp, vs, h6, h4, h5, hk, he, hs0, hp, hs, k3⟩
    refine wp_learn 6 h6 (wp_learn 4 h4 (wp_learn 5 h5 ?_))
    clear h6 h4 h5 h1 h2
    replace he := big_of he
    have hB0 := big_gt0
    have hpB : p ≤ Big := by rw [← he]; exact Nat.le_mul_of_pos_right _ (Nat.pow_pos hs0)
    have hpl := dl_mono hpB
    repeat (first | refine wp_seq_region ?_ | refine wp_seq_seq ?_ | refine wp_region ?_ | refine r_move (by conv => (lhs; whnf)) ?_ | refine r_nil ?_ | refine q_then ?_ | refine r_gtr rfl rfl ?_)
    try refine wp_seq_cond ?_
    refine wp_cond_dec rfl ?_ ?_ <;> intro hk0
    · have hsB : s ≤ Big := by
        have h1 : 0 < p := by
          rcases Nat.eq_zero_or_pos p with rfl | h
          · rw [Nat.zero_mul] at he; omega
          · exact h
        rw [← he]
        exact Nat.le_trans (Nat.le_self_pow (by omega) s) (Nat.le_mul_of_pos_left _ h1)
      have hsl := dl_mono hsB
      have hh := big_half p s k
      rw [he] at hh
      repeat (first | refine wp_seq_region ?_ | refine wp_seq_seq ?_ | refine wp_seq_bseq ?_ | refine wp_region ?_ | refine r_move (by conv => (lhs; whnf)) ?_ | refine r_nil ?_ | refine q_then ?_ | refine wp_block_seq ?_ | refine wp_skip ?_ | refine r_eql rfl rfl ?_ | refine r_remP rfl rfl (by omega) (by omega) ?_)
      first | refine wp_seq_cond ?_ | refine wp_thenB ?_ | refine wp_thenBB ?_ | skip
      refine wp_join [(4, 4), (24, 26)] (fun ρ w' => ∃ vp', ρ 4 = vp' ∧ NatV S 127 .u32 w' vp' (if k % 2 = 1 then p * s else p) ∧ Ext w3 w') rfl ?_ ?_ ?_
      · intro h2
        repeat (first | refine wp_region ?_ | refine r_move (by conv => (lhs; whnf)) ?_)
        refine r_call (times_c (hS.to k3) hp hs (by omega) (by omega)) rfl ?_
        rintro v4 w4 ⟨k4, h4⟩
        repeat (first | refine r_assign (by conv => (lhs; whnf)) ?_ | refine r_nil ?_ | refine q_then ?_)
        exact ⟨by (repeat (first | refine agree_upd rfl ?_ | exact agree_over | refine agree_sub rfl ?_ | exact agree_refl)), v4, rfl, by rw [if_pos (by omega)]; exact h4, k4⟩
      · intro h2
        repeat (first | refine q_then ?_ | refine wp_skip ?_)
        exact ⟨by (repeat (first | refine agree_upd rfl ?_ | exact agree_over | refine agree_sub rfl ?_ | exact agree_refl)), vp, rfl, by rw [if_neg (by omega)]; exact hp, .refl⟩
      · rintro u4 w4 ⟨vp', h4, hp', k4⟩
        refine wp_learn 4 h4 ?_
        clear h4
        repeat (first | refine wp_region ?_ | refine r_move (by conv => (lhs; whnf)) ?_)
        refine r_call (times_c (hS.to (k3.trans k4)) (hs.to k4) (hs.to k4) (by omega) (by omega)) rfl ?_
        rintro v5 w5 ⟨k5, h5⟩
        repeat (first | refine wp_region ?_ | refine r_move (by conv => (lhs; whnf)) ?_ | refine r_assign (by conv => (lhs; whnf)) ?_ | refine r_nil ?_ | refine q_then ?_ | refine r_quoI rfl rfl (by omega) (by omega) (by omega) ?_)
        exact ⟨by (repeat (first | refine agree_upd rfl ?_ | exact agree_over | refine agree_sub rfl ?_ | exact agree_refl)), k / 2, by omega, _, _, vp', v5, congrArg (Value.int .i64) (by omega), rfl, rfl, by omega, leftB_of hh.symm, Nat.mul_pos hs0 hs0, hp'.to k5, h5, (k3.trans k4).trans k5⟩
    · obtain rfl : k = 0 := by omega
      obtain rfl : p = Big := by rw [← he, Nat.pow_zero, Nat.mul_one]
      repeat (first | refine wp_seq_region ?_ | refine wp_region ?_ | refine r_move (by conv => (lhs; whnf)) ?_ | refine wp_exit ?_)
      refine r_call (compare_c (ha.to k3) hp) rfl ?_
      rintro v4 w4 ⟨k4, c, rfl, hc4⟩
      repeat (first | refine r_assign (by conv => (lhs; whnf)) ?_ | refine r_nil ?_ | refine q_then ?_ | refine wp_ret ?_ | refine r_lss rfl rfl ?_)
      refine end_tmp rfl (by conv => (lhs; whnf)) ⟨congrArg Value.bool ?_, k3.trans k4⟩
      by_cases h : a < Big
      · rw [tst_true h, tst_true (hc4.1.2 h)]
      · rw [tst_false h, tst_false fun h' => h (hc4.1.1 h')]
end Go.Proofs.YtpmnjjmngogkkaaGreatDoor
