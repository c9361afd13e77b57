import Derived.Test.YtpmnjjmngogkkaaGreatDoorNat
set_option linter.unusedVariables false
namespace Go.Proofs.YtpmnjjmngogkkaaGreatDoor
open Go Go.RowKit

theorem trim_c {S : Nat → Prop} {w : World} {v : Value} {l : List Nat} (h : Sl S 127 .u32 w v l) (hd : Digs l) :
    Gives Tryz.prog 157 [v] w fun v' w' => w' = w ∧ NatV S 127 .u32 w v' (nval l) := by
  have hlen := h.len_le
  unfold maxLen at hlen
  refine gives_of Tryz.func157 rfl rfl rfl ?_
  repeat (first | refine wp_seq_region ?_ | refine wp_region ?_ | refine r_move (by conv => (lhs; whnf)) ?_ | refine r_assign (by conv => (lhs; whnf)) ?_ | refine r_nil ?_ | refine q_then ?_ | refine r_len (by conv => (lhs; whnf)) (by assumption) ?_)
  first | refine wp_seq_block ?_ | refine wp_thenB ?_ | refine wp_thenBB ?_ | skip
  refine wp_mid [(3, 3), (6, 17)] (fun ρ w' => w' = w ∧ ∃ j : Nat, ρ 3 = .int .i64 j ∧ j ≤ l.length ∧ (∀ i, j ≤ i → i < l.length → l.getD i 0 = 0) ∧ (j = 0 ∨ l.getD (j - 1) 0 ≠ 0)) ?_ ?_
  · try refine wp_seq_block ?_
    refine wp_for [(3, 3), (6, 17)] (fun j ρ w' => w' = w ∧ ρ 3 = .int .i64 j ∧ j ≤ l.length ∧ ∀ i, j ≤ i → i < l.length → l.getD i 0 = 0) l.length ⟨rfl, rfl, Nat.le_refl _, fun i h1 h2 => by omega⟩ ?_
    rintro j u w' ⟨rfl, h3, hj, hz⟩
    refine wp_learn 3 h3 ?_
    clear h3
    repeat (first | refine wp_seq_region ?_ | refine wp_seq_seq ?_ | refine wp_region ?_ | refine r_move (by conv => (lhs; whnf)) ?_ | refine r_gtr rfl rfl ?_)
    refine r_guard_split rfl rfl ?_ ?_ <;> intro hc
    · obtain ⟨m, rfl⟩ : ∃ m, j = m + 1 := ⟨j - 1, by omega⟩
      repeat (first | refine r_index1 (i := m) (by conv => (lhs; whnf)) rfl (by omega) h (by omega) ?_ | refine r_load_dig rfl h (by omega) ?_ | refine r_move (by conv => (lhs; whnf)) ?_ | refine r_nil ?_ | refine q_then ?_ | refine r_guard_run rfl rfl ?_ | refine r_pick_true rfl (by conv => (lhs; whnf)) ?_ | refine r_eql rfl rfl ?_ | refine r_subI rfl rfl (by omega) (by omega) ?_)
      try refine wp_seq_cond ?_
      refine wp_cond_dec rfl ?_ ?_ <;> intro hc2
      · repeat (first | refine wp_region ?_ | refine r_move (by conv => (lhs; whnf)) ?_ | refine r_assign (by conv => (lhs; whnf)) ?_ | refine r_nil ?_ | refine q_then ?_ | refine wp_block_region ?_ | refine wp_skip ?_ | refine q_block ?_ | refine r_subI rfl rfl (by omega) (by omega) ?_)
        refine ⟨by (repeat (first | refine agree_upd rfl ?_ | exact agree_over | refine agree_sub rfl ?_ | exact agree_refl)), m, by omega, rfl, congrArg (Value.int .i64) (by omega), by omega, fun i h1 h2 => ?_⟩
        by_cases e : i = m
        · subst e; omega
        · exact hz i (by omega) h2
      · repeat (first | refine q_then ?_ | refine wp_exit ?_ | refine q_then_exit ?_ | refine q_block_hit rfl ?_)
        exact ⟨by (repeat (first | refine agree_upd rfl ?_ | exact agree_over | refine agree_sub rfl ?_ | exact agree_refl)), rfl, m + 1, rfl, hj, hz, .inr (by simpa using hc2)⟩
    · repeat (first | refine r_nil ?_ | refine q_then ?_ | refine wp_exit ?_ | refine q_then_exit ?_ | refine q_block_hit rfl ?_ | refine r_guard_skip rfl rfl rfl ?_ | refine r_pick_false rfl (by conv => (lhs; whnf)) ?_ | refine wp_cond_false rfl ?_)
      exact ⟨by (repeat (first | refine agree_upd rfl ?_ | exact agree_over | refine agree_sub rfl ?_ | exact agree_refl)), rfl, j, rfl, hj, hz, .inl (by omega)⟩
  · rintro u w' ⟨rfl, j, h3, hj, hz, hl⟩
    refine wp_learn 3 h3 ?_
    clear h3
    repeat (first | refine r_slice3 (k := j) (by conv => (lhs; whnf)) h rfl rfl rfl hj ?_ | refine wp_seq_region ?_ | refine wp_region ?_ | refine r_move (by conv => (lhs; whnf)) ?_)
    intro v' hv'
    repeat (first | refine r_assign (by conv => (lhs; whnf)) ?_ | refine r_nil ?_ | refine q_then ?_ | refine wp_ret ?_)
    refine end_tmp rfl (by conv => (lhs; whnf)) ⟨rfl, ?_⟩
    have e := canon_take hd hj hz hl
    have e2 : (dg (nval l)).length = j := by rw [← e, List.length_take]; omega
    show Row _ _ _ _ _ _ _
    rw [e2, ← e]
    simpa [List.map_take] using hv'

theorem compare_c {S : Nat → Prop} {w : World} {va vb : Value} {a b : Nat} (ha : NatV S 127 .u32 w va a) (hb : NatV S 127 .u32 w vb b) :
    Gives Tryz.prog 143 [va, vb] w fun v' w' => Ext w w' ∧ ∃ c : Int, v' = .int .i64 c ∧ CmpOk c a b := by
  have la := ha.len_le
  have lb := hb.len_le
  unfold maxLen at la lb
  refine gives_of Tryz.func143 rfl rfl rfl ?_
  repeat (first | refine wp_seq_region ?_ | refine wp_seq_seq ?_ | refine wp_region ?_ | refine r_move (by conv => (lhs; whnf)) ?_ | refine r_assign (by conv => (lhs; whnf)) ?_ | refine r_nil ?_ | refine q_then ?_ | refine r_len (by conv => (lhs; whnf)) (by assumption) ?_ | refine r_neq rfl rfl ?_)
  have hA := canon_dg a
  have hB := canon_dg b
  try refine wp_seq_cond ?_
  refine wp_cond_dec rfl ?_ ?_ <;> intro hc
  · repeat (first | refine wp_seq_region ?_ | refine wp_region ?_ | refine r_move (by conv => (lhs; whnf)) ?_ | refine r_assign (by conv => (lhs; whnf)) ?_ | refine r_nil ?_ | refine q_then ?_ | refine wp_ret ?_ | refine q_then_ret ?_ | refine r_len (by conv => (lhs; whnf)) (by assumption) ?_ | refine r_subI rfl rfl (by omega) (by omega) ?_)
    refine end_tmp rfl (by conv => (lhs; whnf)) ⟨.refl, _, rfl, ?_⟩
    rcases Nat.lt_or_gt_of_ne (fun e : (dg a).length = (dg b).length => hc (by rw [e])) with h | h
    · have := nval_lt_len hA hB h
      rw [nval_dg, nval_dg] at this
      exact ⟨by omega, by omega⟩
    · have := nval_lt_len hB hA h
      rw [nval_dg, nval_dg] at this
      exact ⟨by omega, by omega⟩
  · have hlen : (dg a).length = (dg b).length := by omega
    clear hc
    repeat (first | refine wp_seq_region ?_ | refine wp_seq_seq ?_ | refine wp_region ?_ | refine r_move (by conv => (lhs; whnf)) ?_ | refine r_assign (by conv => (lhs; whnf)) ?_ | refine r_nil ?_ | refine q_then ?_ | refine wp_skip ?_ | refine r_len (by conv => (lhs; whnf)) (by assumption) ?_ | refine r_subI rfl rfl (by omega) (by omega) ?_)
    try refine wp_seq_block ?_
    refine wp_for [(4, 5), (19, 42)] (fun k ρ w' => Ext w w' ∧ ρ 5 = .int .i64 (k - 1) ∧ k ≤ (dg a).length ∧ (dg a).drop k = (dg b).drop k) (dg a).length ⟨.refl, rfl, Nat.le_refl _, by rw [List.drop_of_length_le (Nat.le_refl _), List.drop_of_length_le (by omega)]⟩ ?_
    rintro k u w1 ⟨k1, h5, hk, hd⟩
    refine wp_learn 5 h5 ?_
    clear h5
    replace ha := ha.to k1
    replace hb := hb.to k1
    repeat (first | refine wp_seq_region ?_ | refine wp_seq_seq ?_ | refine wp_region ?_ | refine r_move (by conv => (lhs; whnf)) ?_ | refine r_nil ?_ | refine q_then ?_ | refine r_geq rfl rfl ?_)
    try refine wp_seq_cond ?_
    refine wp_cond_dec rfl ?_ ?_ <;> intro hc
    · obtain ⟨m, rfl⟩ : ∃ m, k = m + 1 := ⟨k - 1, by omega⟩
      repeat (first | refine wp_seq_region ?_ | refine wp_seq_bseq ?_ | refine wp_block_seq ?_ | refine wp_skip ?_)
      refine wp_drawn 8 (by kernel_rfl) (by kernel_rfl) ?_
      apply ob_step
      · intro x w1 k1 hd
        refine r_move (by conv => (lhs; whnf)) ?_
        refine r_nil ?_
        exact ob_eq
      apply ob_step
      · intro x w1 k1 hd
        refine r_move (by conv => (lhs; whnf)) ?_
        refine r_nil ?_
        exact ob_eq
      apply ob_step
      · intro x w1 k1 hd
        refine r_index1 (i := m) (by conv => (lhs; whnf)) rfl (by omega) (ha.to k1) (by omega) ?_
        refine r_nil ?_
        exact ob_eq
      apply ob_step
      · intro x w1 k1 hd
        refine r_load_dig rfl (ha.to k1) (by omega) ?_
        refine r_nil ?_
        exact ob_eq
      apply ob_step
      · intro x w1 k1 hd
        refine r_move (by conv => (lhs; whnf)) ?_
        refine r_nil ?_
        exact ob_eq
      apply ob_step
      · intro x w1 k1 hd
        refine r_move (by conv => (lhs; whnf)) ?_
        refine r_nil ?_
        exact ob_eq
      apply ob_step
      · intro x w1 k1 hd
        refine r_index1 (i := m) (by conv => (lhs; whnf)) rfl (by omega) (hb.to k1) (by omega) ?_
        refine r_nil ?_
        exact ob_eq
      apply ob_step
      · intro x w1 k1 hd
        refine r_load_dig rfl (hb.to k1) (by omega) ?_
        refine r_nil ?_
        exact ob_eq
      refine ob_nil (ob_end ?_)
      intro x w2 k2 _
      have hda := dg_lt a m
      have hdb := dg_lt b m
      repeat (first | refine r_nil ?_ | refine q_then ?_ | refine r_neq rfl rfl ?_)
      try refine wp_seq_cond ?_
      refine wp_cond_dec rfl ?_ ?_ <;> intro hc2
      · repeat (first | refine wp_seq_region ?_)
        replace ha := ha.to k2
        replace hb := hb.to k2
        refine wp_drawn 11 (by kernel_rfl) (by kernel_rfl) ?_
        apply ob_step
        · intro x w1 k1 hd
          refine r_move (by conv => (lhs; whnf)) ?_
          refine r_nil ?_
          exact ob_eq
        apply ob_step
        · intro x w1 k1 hd
          refine r_move (by conv => (lhs; whnf)) ?_
          refine r_nil ?_
          exact ob_eq
        apply ob_step
        · intro x w1 k1 hd
          refine r_index1 (i := m) (by conv => (lhs; whnf)) rfl (by omega) (ha.to k1) (by omega) ?_
          refine r_nil ?_
          exact ob_eq
        apply ob_step
        · intro x w1 k1 hd
          refine r_load_dig rfl (ha.to k1) (by omega) ?_
          refine r_nil ?_
          exact ob_eq
        apply ob_step
        · intro x w1 k1 hd
          refine r_conv rfl (wrap_i64 (by omega) (by omega)) ?_
          refine r_nil ?_
          exact ob_eq
        apply ob_step
        · intro x w1 k1 hd
          refine r_move (by conv => (lhs; whnf)) ?_
          refine r_nil ?_
          exact ob_eq
        apply ob_step
        · intro x w1 k1 hd
          refine r_move (by conv => (lhs; whnf)) ?_
          refine r_nil ?_
          exact ob_eq
        apply ob_step
        · intro x w1 k1 hd
          refine r_index1 (i := m) (by conv => (lhs; whnf)) rfl (by omega) (hb.to k1) (by omega) ?_
          refine r_nil ?_
          exact ob_eq
        apply ob_step
        · intro x w1 k1 hd
          refine r_load_dig rfl (hb.to k1) (by omega) ?_
          refine r_nil ?_
          exact ob_eq
        apply ob_step
        · intro x w1 k1 hd
          refine r_conv rfl (wrap_i64 (by omega) (by omega)) ?_
          refine r_nil ?_
          exact ob_eq
        apply ob_step
        · intro x w1 k1 hd
          refine r_subI rfl rfl (by omega) (by omega) ?_
          refine r_nil ?_
          exact ob_eq
        refine ob_nil (ob_end ?_)
        intro x w3 k3 _
        repeat (first | refine r_assign (by conv => (lhs; whnf)) ?_ | refine r_nil ?_ | refine q_then ?_ | refine wp_ret ?_ | refine q_then_ret ?_ | refine q_block_ret ?_)
        refine end_tmp rfl (by conv => (lhs; whnf)) ⟨k1.trans (k2.trans k3), _, rfl, ?_⟩
        rcases Nat.lt_or_gt_of_ne (fun e : (dg a).getD m 0 = (dg b).getD m 0 => hc2 (by rw [e])) with h | h
        · have := nval_lt_at hA.1 (by omega) (by omega) hd h
          rw [nval_dg, nval_dg] at this
          exact ⟨by omega, by omega⟩
        · have := nval_lt_at hB.1 (by omega) (by omega) hd.symm h
          rw [nval_dg, nval_dg] at this
          exact ⟨by omega, by omega⟩
      · repeat (first | refine wp_region ?_ | refine r_move (by conv => (lhs; whnf)) ?_ | refine r_assign (by conv => (lhs; whnf)) ?_ | refine r_nil ?_ | refine q_then ?_ | refine wp_skip ?_ | refine r_subI rfl rfl (by omega) (by omega) ?_)
        refine ⟨by (repeat (first | refine agree_upd rfl ?_ | exact agree_over | refine agree_sub rfl ?_ | exact agree_refl)), m, by omega, k1.trans k2, congrArg (Value.int .i64) (by omega), by omega, drop_eq_step (by omega) (by omega) hd (by omega)⟩
    · repeat (first | refine wp_seq_region ?_ | refine wp_region ?_ | refine r_assign (by conv => (lhs; whnf)) ?_ | refine r_nil ?_ | refine q_then ?_ | refine wp_ret ?_ | refine wp_exit ?_)
      refine end_tmp rfl (by conv => (lhs; whnf)) ⟨k1, _, rfl, ?_⟩
      obtain rfl : k = 0 := by omega
      simp only [List.drop_zero] at hd
      have h := congrArg nval hd
      rw [nval_dg, nval_dg] at h
      exact ⟨by omega, by omega⟩
end Go.Proofs.YtpmnjjmngogkkaaGreatDoor
