import Derived.Test.YtpmnjjmngogkkaaGreatDoorMag5
set_option linter.unusedVariables false
namespace Go.Proofs.YtpmnjjmngogkkaaGreatDoor
open Go Go.RowKit

theorem shifted_c {S : Nat → Prop} {w : World} {va : Value} {a c : Nat} (hS : Up S w) (ha : NatV S 127 .u32 w va a) (hla : dl a ≤ 1099511627776) (hc : c < 1000000000) :
    Gives Tryz.prog 178 [va, .int .u32 c] w fun v' w' => Ext w w' ∧ NatV S 127 .u32 w' v' (c + 1000000000 * a) := by
  refine gives_of Tryz.func178 rfl rfl rfl ?_
  repeat (first | refine wp_seq_region ?_ | refine wp_region ?_ | refine r_move (by conv => (lhs; whnf)) ?_ | refine r_assign (by conv => (lhs; whnf)) ?_ | refine r_nil ?_)
  refine r_lit1 (by conv => (lhs; whnf)) rfl ?_
  intro w1 g1 k1 h1 hg1
  replace ha := ha.to k1
  have hla' : (dg a).length ≤ 1099511627776 := hla
  repeat (first | refine r_move (by conv => (lhs; whnf)) ?_)
  refine r_append_row (by conv => (lhs; whnf)) (own_blk h1 hg1 (by unfold maxLen; omega) rfl) (by conv => (lhs; whnf)) ha (by omega) ones_map (by unfold maxLen; omega) (by omega) k1.size ?_
  intro v2 w2 ho k2
  skip
  have hd : Digs (c :: dg a) := (digs_dg a).cons hc
  refine r_call (trim_c (S := S) (v := v2) (l := c :: dg a) ?_ hd) rfl ?_
  · have h4 := Row.of_own ho hS
    rw [Nat.add_comm] at h4
    exact h4
  · rintro v3 w3 ⟨rfl, h3⟩
    repeat (first | refine r_assign (by conv => (lhs; whnf)) ?_ | refine r_nil ?_ | refine q_then ?_ | refine wp_ret ?_)
    refine end_tmp rfl (by conv => (lhs; whnf)) ⟨?_, ?_⟩
    · exact Keeps.later k1 k2 fun i hi _ e => by simp [Value.ownBlock] at e; omega
    · simpa [nval, nval_dg] using h3

/-- The state of multiplication: out holds the sum so far. -/
theorem times_c {S : Nat → Prop} {w : World} {va vb : Value} {a b : Nat} (hS : Up S w) (ha : NatV S 127 .u32 w va a) (hb : NatV S 127 .u32 w vb b) (hla : dl a ≤ 1099511627776) (hlb : dl b ≤ 1099511627776) :
    Gives Tryz.prog 147 [va, vb] w fun v' w' => Ext w w' ∧ NatV S 127 .u32 w' v' (a * b) := by
  have hla' : (dg a).length ≤ 1099511627776 := hla
  have hlb' : (dg b).length ≤ 1099511627776 := hlb
  refine gives_of Tryz.func147 rfl rfl rfl ?_
  repeat (first | refine wp_seq_region ?_ | refine wp_region ?_ | refine r_move (by conv => (lhs; whnf)) ?_ | refine r_assign (by conv => (lhs; whnf)) ?_ | refine r_nil ?_ | refine r_len (by conv => (lhs; whnf)) (by assumption) ?_ | refine r_addI rfl rfl (by omega) (by omega) ?_)
  refine r_make (l := (dg a).length + (dg b).length) (c := (dg a).length + (dg b).length) rfl rfl (by omega) (by omega) (Nat.le_refl _) (by omega) (by unfold maxLen; omega) ?_
  intro w1 g k1 hg hgs
  have hg : Blk w1 g 127 ((List.replicate ((dg a).length + (dg b).length) 0).map fun d : Nat => .int .u32 d) := by
    simpa [toList_madeCells_one, Value.cells, List.map_replicate] using hg
  have ha0 := ha.mono (S' := fun k => S k ∧ k < w.heap.size) fun i hi hs => ⟨hs, hi⟩
  have hb0 := hb.mono (S' := fun k => S k ∧ k < w.heap.size) fun i hi hs => ⟨hs, hi⟩
  repeat (first | refine wp_seq_region ?_ | refine wp_seq_seq ?_ | refine wp_region ?_ | refine r_move (by conv => (lhs; whnf)) ?_ | refine r_assign (by conv => (lhs; whnf)) ?_ | refine r_nil ?_ | refine q_then ?_ | refine r_len (by conv => (lhs; whnf)) (by assumption) ?_)
  try refine wp_seq_block ?_
  refine wp_for [(6, 11), (20, 66)] (fun k ρ w' => ∃ (i : Nat) (o : List Nat), k + i = (dg a).length ∧ ρ 20 = .int .i64 i ∧ o.length = (dg a).length + (dg b).length ∧ Digs o ∧ nval o = nval ((dg a).take i) * b ∧ (∀ j, i + (dg b).length ≤ j → o.getD j 0 = 0) ∧
      Blk w' g 127 (o.map fun d : Nat => .int .u32 d) ∧ Keeps (fun k => k < w.heap.size) w w') (dg a).length
    ⟨0, List.replicate ((dg a).length + (dg b).length) 0, by omega, rfl, by simp, fun x hx => by rw [List.eq_of_mem_replicate hx]; omega, by rw [nval_zeros]; simp [nval], fun j _ => by simp [List.getD_eq_getElem?_getD, List.getElem?_replicate]; split <;> rfl, hg, k1.mono fun _ _ => trivial⟩ ?_
  rintro k u w2 ⟨i, o, hki, h20, hol, hod, hv, hz, hg2, k2⟩
  refine wp_learn 20 h20 ?_
  clear h20 hg
  have ha2 : NatV (fun k => S k ∧ k < w.heap.size) 127 .u32 w2 va a := ha0.keep (k2.mono fun i hi => hi.2)
  have hb2 : NatV (fun k => S k ∧ k < w.heap.size) 127 .u32 w2 vb b := hb0.keep (k2.mono fun i hi => hi.2)
  have hda := dg_lt a i
  repeat (first | refine wp_seq_region ?_ | refine wp_region ?_ | refine r_nil ?_ | refine q_then ?_ | refine r_lss rfl rfl ?_)
  try refine wp_seq_cond ?_
  refine wp_cond_dec rfl ?_ ?_ <;> intro hc
  · repeat (first | refine r_index1 (by conv => (lhs; whnf)) rfl rfl ha2 (by omega) ?_ | refine r_load_dig rfl ha2 (by omega) ?_ | refine wp_seq_region ?_ | refine wp_seq_seq ?_ | refine wp_seq_bseq ?_ | refine wp_region ?_ | refine r_move (by conv => (lhs; whnf)) ?_ | refine r_assign (by conv => (lhs; whnf)) ?_ | refine r_nil ?_ | refine q_then ?_ | refine wp_block_seq ?_ | refine wp_skip ?_ | refine r_len (by conv => (lhs; whnf)) (by assumption) ?_)
    obtain ⟨x, hx⟩ : ∃ x, x = (dg a).getD i 0 := ⟨_, rfl⟩
    rw [← hx] at hda ⊢
    first | refine wp_seq_block ?_ | refine wp_thenB ?_ | refine wp_thenBB ?_ | skip
    refine wp_mid [(8, 11), (27, 57)] (fun ρ w' => ∃ (o' : List Nat) (c : Nat), ρ 8 = .int .u64 c ∧ c < 1000000000 ∧ o'.length = o.length ∧ Digs o' ∧ nval o' + 1000000000 ^ (i + (dg b).length) * c = nval o + 1000000000 ^ i * (x * b) ∧
        (∀ j, i + (dg b).length ≤ j → o'.getD j 0 = 0) ∧ Blk w' g 127 (o'.map fun d : Nat => .int .u32 d) ∧ Keeps (fun k => k < w.heap.size) w w') ?_ ?_
    · try refine wp_seq_block ?_
      refine wp_for [(8, 11), (27, 57)] (fun k ρ w' => ∃ (j : Nat) (o' : List Nat) (c : Nat), k + j = (dg b).length ∧ ρ 27 = .int .i64 j ∧ ρ 8 = .int .u64 c ∧ c < 1000000000 ∧ o'.length = o.length ∧ Digs o' ∧ nval o' + 1000000000 ^ (i + j) * c = nval o + 1000000000 ^ i * (x * nval ((dg b).take j)) ∧
        (∀ j, i + (dg b).length ≤ j → o'.getD j 0 = 0) ∧ Blk w' g 127 (o'.map fun d : Nat => .int .u32 d) ∧ Keeps (fun k => k < w.heap.size) w w') (dg b).length
        ⟨0, o, 0, by omega, rfl, rfl, by omega, rfl, hod, by simp [nval], hz, hg2, k2⟩ ?_
      rintro k' u3 w3 ⟨j, o', c, hkj, h27, h8, hcb, hol', hod', hv', hz', hg3, k3⟩
      refine wp_learn 27 h27 (wp_learn 8 h8 ?_)
      clear h27 h8
      have hb3 : NatV (fun k => S k ∧ k < w.heap.size) 127 .u32 w3 vb b := hb0.keep (k3.mono fun i hi => hi.2)
      have hdb := dg_lt b j
      repeat (first | refine wp_seq_region ?_ | refine wp_region ?_ | refine r_nil ?_ | refine q_then ?_ | refine r_lss rfl rfl ?_)
      try refine wp_seq_cond ?_
      refine wp_cond_dec rfl ?_ ?_ <;> intro hcj
      · have hm : ((x : Nat) : Int) * ((dg b).getD j 0 : Nat) ≤ 999999999 * 999999999 := Int.mul_le_mul (by omega) (by omega) (by omega) (by omega)
        have hm0 : 0 ≤ ((x : Nat) : Int) * ((dg b).getD j 0 : Nat) := Int.mul_nonneg (by omega) (by omega)
        have hdo := hod'.getD (i + j)
        repeat (first | refine r_index1 (by conv => (lhs; whnf)) rfl rfl hb3 (by omega) ?_ | refine r_load_dig rfl hb3 (by omega) ?_ | refine r_mulU rfl rfl (by omega) (by omega) ?_ | refine r_index_own (i := i + j) rfl rfl (by omega) (by omega) ?_ | refine r_load_digs rfl hg3 (by omega) ?_ | refine r_addU rfl rfl (by omega) (by omega) ?_ | refine wp_seq_region ?_ | refine wp_seq_bseq ?_ | refine wp_region ?_ | refine r_move (by conv => (lhs; whnf)) ?_ | refine r_assign (by conv => (lhs; whnf)) ?_ | refine r_nil ?_ | refine wp_block_seq ?_ | refine wp_skip ?_ | refine r_addI rfl rfl (by omega) (by omega) ?_ | refine r_conv rfl (wrap_u64 (by omega) (by omega)) ?_ | refine r_conv rfl (wrap_u32 (by omega) (by omega)) ?_ | refine r_remP rfl rfl (by omega) (by omega) ?_)
        refine r_store_digs (c := (x * (dg b).getD j 0 + o'.getD (i + j) 0 + c) % 1000000000) rfl rfl (by rw [← Int.natCast_mul]; omega) hg3 (by omega) ?_
        intro w4 k4 hg4
        repeat (first | refine wp_region ?_ | refine r_move (by conv => (lhs; whnf)) ?_ | refine r_assign (by conv => (lhs; whnf)) ?_ | refine r_nil ?_ | refine q_then ?_ | refine r_addI rfl rfl (by omega) (by omega) ?_ | refine r_quoU rfl rfl (by omega) (by omega) (by omega) ?_)
        have hms := mul_step (m := x * (dg b).getD j 0) (show i + j < o'.length by omega) hv'
        have hmn : ((x * (dg b).getD j 0 : Nat) : Int) = x * ((dg b).getD j 0 : Nat) := Int.natCast_mul _ _
        refine ⟨by (repeat (first | refine agree_upd rfl ?_ | exact agree_over | refine agree_sub rfl ?_ | exact agree_refl)), k' - 1, by omega, j + 1, o'.set (i + j) ((x * (dg b).getD j 0 + o'.getD (i + j) 0 + c) % 1000000000), (x * (dg b).getD j 0 + o'.getD (i + j) 0 + c) / 1000000000, by omega, rfl,
          congrArg (Value.int .u64) (by omega), by omega, by simpa using hol', hod'.set (by omega) _, ?_, fun q hq => ?_, hg4, k3.trans (k4.mono fun q hq => by omega)⟩
        · rw [← Nat.add_assoc, hms, nval_take_succ (by omega)]
          rw [Nat.mul_add, Nat.mul_add, Nat.add_assoc]
          congr 2
          rw [Nat.pow_add, Nat.mul_assoc]
          congr 1
          rw [← Nat.mul_assoc, ← Nat.mul_assoc, Nat.mul_comm x]
        · rw [getD_set_other (by omega)]
          exact hz' q hq
      · repeat (first | refine q_then ?_ | refine wp_exit ?_ | refine q_then_exit ?_ | refine q_block_hit rfl ?_)
        obtain rfl : j = (dg b).length := by omega
        rw [List.take_of_length_le (Nat.le_refl _), nval_dg] at hv'
        exact ⟨by (repeat (first | refine agree_upd rfl ?_ | exact agree_over | refine agree_sub rfl ?_ | exact agree_refl)), o', c, rfl, hcb, hol', hod', hv', hz', hg3, k3⟩
    · rintro u3 w3 ⟨o', c, h8, hcb, hol', hod', hv', hz', hg3, k3⟩
      refine wp_learn 8 h8 ?_
      clear h8
      repeat (first | refine r_index_own (i := i + (dg b).length) rfl rfl (by omega) (by omega) ?_ | refine wp_region ?_ | refine r_move (by conv => (lhs; whnf)) ?_ | refine r_len (by conv => (lhs; whnf)) (by assumption) ?_ | refine r_addI rfl rfl (by omega) (by omega) ?_ | refine r_conv rfl (wrap_u32 (by omega) (by omega)) ?_)
      refine r_store_digs (c := c) rfl rfl rfl hg3 (by omega) ?_
      intro w4 k4 hg4
      repeat (first | refine wp_region ?_ | refine r_move (by conv => (lhs; whnf)) ?_ | refine r_nil ?_ | refine q_then ?_ | refine r_addI rfl rfl (by omega) (by omega) ?_)
      have hns := nval_set o' c (show i + (dg b).length < o'.length by omega)
      rw [hz' _ (Nat.le_refl _), Nat.mul_zero] at hns
      refine ⟨by (repeat (first | refine agree_upd rfl ?_ | exact agree_over | refine agree_sub rfl ?_ | exact agree_refl)), k - 1, by omega, i + 1, o'.set (i + (dg b).length) c, by omega, rfl, by simp; omega, hod'.set hcb _, ?_, fun q hq => ?_, hg4, k3.trans (k4.mono fun q hq => by omega)⟩
      · rw [nval_take_succ (by omega), Nat.add_mul, ← hv, ← hx, Nat.mul_assoc]
        omega
      · rw [getD_set_other (by omega)]
        exact hz' q (by omega)
  · repeat (first | refine wp_seq_region ?_ | refine wp_region ?_ | refine r_move (by conv => (lhs; whnf)) ?_ | refine wp_exit ?_)
    obtain rfl : i = (dg a).length := by omega
    rw [List.take_of_length_le (Nat.le_refl _), nval_dg] at hv
    refine r_call (trim_c (S := S) (v := .slice (some ⟨g, 0, none⟩) ((dg a).length + (dg b).length) ((dg a).length + (dg b).length)) (l := o) ?_ hod) rfl ?_
    · have h4 := Row.of_blk (S := S) (s := 1) (n := o.length) (cap := o.length) hg2 (hS g hgs) (Nat.le_refl _) (by unfold maxLen; omega) (by simp)
      rw [Nat.mul_one, List.take_of_length_le (by simp)] at h4
      rw [← hol]
      exact h4
    · rintro v3 w3 ⟨rfl, h3⟩
      repeat (first | refine r_assign (by conv => (lhs; whnf)) ?_ | refine r_nil ?_ | refine q_then ?_ | refine wp_ret ?_)
      refine end_tmp rfl (by conv => (lhs; whnf)) ⟨?_, ?_⟩
      · exact Keeps.later .refl k2 fun i hi _ => hi
      · rw [← hv]; exact h3
end Go.Proofs.YtpmnjjmngogkkaaGreatDoor
