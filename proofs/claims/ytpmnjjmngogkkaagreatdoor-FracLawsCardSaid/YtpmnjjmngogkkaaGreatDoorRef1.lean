/- The reference's natural numbers: their order, sums, differences, products by a limb. -/
import Derived.Test.YtpmnjjmngogkkaaGreatDoorInt4
set_option linter.unusedVariables false
set_option linter.unusedSimpArgs false
namespace Go.Proofs.YtpmnjjmngogkkaaGreatDoor
open Go Go.RowKit

section rules
variable {P : Program} {n : Nat} {Q : Post} {ρ : Fr} {w : World} {all rest : List Oper} {d : Tmp} {ty : TypeId} {pos : String} {aft : Array Edge}
/-- s[:h] of a row that is not empty. -/
theorem r_slice_row {t T : TypeId} [st : SlT P t T] {s b : Nat} {z : Value} {agg : Bool} [ti : TyI P T s b z agg] {x hi : Operand} {S : Nat → Prop} {w0 : World} {v : Value} {m : Nat} {cs : List Value} {k : Nat} {i : Int}
    (hv : ev ρ x = v) (hr : Row S T s w0 v m cs) (hh : ev ρ hi = .int .i64 i) (hik : i = (k : Int)) (hk : k ≤ m) (hm : 0 < m)
    (h : ∀ v', Row S T s w0 v' k (cs.take (k * s)) → WpR P n all Q rest (upd ρ d v') w) : WpR P n all Q (⟨some d, .slice t x none (some hi) none, ty, pos, aft, none⟩ :: rest) ρ w := by
  subst hik
  have hmul : k * s ≤ m * s := Nat.mul_le_mul_right _ hk
  rcases hr.2 with ⟨h1, h2⟩ | ⟨b', off, cap, arr, fr, h1, h2, h3, hs, hg, h5, h6⟩
  · omega
  · refine r_val (v := .slice (some ⟨b', off, none⟩) k cap) rfl rfl ?_ (h _ ⟨by rw [List.length_take, hr.1]; omega, .inr ⟨b', off, cap, arr, fr, rfl, by omega, h3, hs, hg, h5, ?_⟩⟩)
    · have hk2 : k ≤ cap := by omega
      simp [execOp, hv, h1, hh, Instr.sliceAt, Instr.slice, run_underlying st.und, Instr.sliceBounds, Instr.sliceBound, asIntOf, hk2, ti.runSize w, Addr.add, show ¬ cap = 0 by omega]
    · rw [← h6, List.take_take]
      congr 1
      omega
end rules

theorem agree_base' {W : List (Nat × Nat)} {ρ ρ' : Fr} {d : Nat} {v : Value} (hd : inW W d = true) (h : Agree W ρ ρ') : Agree W (upd ρ d v) ρ' := by
  intro i hi
  rw [h i hi, upd_ne]
  cases hb : Nat.beq i d with
  | false => rfl
  | true => rw [Nat.eq_of_beq_eq_true hb, hd] at hi; cases hi
theorem nval_take_all {l : List Nat} {i : Nat} (h : l.length ≤ i) : l.take i = l := List.take_of_length_le h
theorem getD_out {l : List Nat} {i : Nat} (h : l.length ≤ i) : l.getD i 0 = 0 := by simp [List.getD_eq_getElem?_getD, List.getElem?_eq_none h]
theorem nval_take_step (l : List Nat) (i : Nat) : nval (l.take (i + 1)) = nval (l.take i) + 1000000000 ^ i * l.getD i 0 := by
  by_cases h : i < l.length
  · exact nval_take_succ h
  · rw [nval_take_all (by omega), nval_take_all (by omega), getD_out (by omega)]; simp
theorem nval_snoc (l : List Nat) (d : Nat) : nval (l ++ [d]) = nval l + 1000000000 ^ l.length * d := by
  rw [nval_append]
  simp [nval]
theorem carry_nat {v c x p i : Nat} (h : v + 1000000000 ^ i * c = p) : v + 1000000000 ^ i * ((c + x) % 1000000000) + 1000000000 ^ (i + 1) * ((c + x) / 1000000000) = p + 1000000000 ^ i * x := by
  have h2 : (c + x) % 1000000000 + 1000000000 * ((c + x) / 1000000000) = c + x := by omega
  have h3 : 1000000000 ^ i * ((c + x) % 1000000000) + 1000000000 ^ i * (1000000000 * ((c + x) / 1000000000)) = 1000000000 ^ i * c + 1000000000 ^ i * x := by
    rw [← Nat.mul_add, h2, Nat.mul_add]
  rw [Nat.pow_succ, Nat.mul_assoc]
  omega
theorem dg_top {a : Nat} (h : 0 < (dg a).length) : (dg a).getD ((dg a).length - 1) 0 ≠ 0 := by
  have hc := (canon_dg a).2 (by intro e; rw [e] at h; simp at h)
  rw [List.getLast_eq_getElem] at hc
  simpa [List.getD_eq_getElem?_getD, List.getElem?_eq_getElem (show (dg a).length - 1 < (dg a).length by omega)] using hc

theorem rtrim_c {S : Nat → Prop} {w : World} {v : Value} {l : List Nat} (h : Sl S 3 .i64 w v l) (hd : Digs l) :
    Gives Tryz.prog 117 [v] w fun v' w' => w' = w ∧ NatV S 3 .i64 w v' (nval l) := by
  have hlen := h.len_le
  unfold maxLen at hlen
  refine gives_of Tryz.func117 rfl rfl rfl ?_
  repeat (first | refine wp_seq_region ?_ | refine wp_region ?_ | refine r_assign (by conv => (lhs; whnf)) ?_ | refine r_nil ?_ | refine q_then ?_)
  try refine wp_seq_block ?_
  refine wp_for ((0, 0) :: [(0, 0), (3, 19)]) (fun j ρ w' => w' = w ∧ ∃ v', ρ 0 = v' ∧ j ≤ l.length ∧ Sl S 3 .i64 w v' (l.take j) ∧ (∀ i, j ≤ i → i < l.length → l.getD i 0 = 0)) l.length ?_ ?_
  · exact ⟨rfl, v, rfl, Nat.le_refl _, by rw [nval_take_all (Nat.le_refl _)]; exact h, fun i h1 h2 => by omega⟩
  rintro j u w' ⟨rfl, v', h0, hj, hv, hz⟩
  refine wp_learn 0 h0 ?_
  clear h0 h
  have hlt : (l.take j).length = j := by rw [List.length_take]; omega
  repeat (first | refine wp_seq_region ?_ | refine wp_seq_seq ?_ | refine wp_region ?_ | refine r_move (by conv => (lhs; whnf)) ?_ | refine r_len (by conv => (lhs; whnf)) (by assumption) ?_ | refine r_gtr rfl rfl ?_)
  refine r_guard_split rfl rfl ?_ ?_ <;> intro hc
  · obtain ⟨m, rfl⟩ : ∃ m, j = m + 1 := ⟨j - 1, by omega⟩
    have e0 : (l.take (m + 1)).getD m 0 = l.getD m 0 := by simp [List.getD_eq_getElem?_getD, List.getElem?_take]
    repeat (first | refine r_index1 (i := m) (by conv => (lhs; whnf)) rfl (by omega) hv (by omega) ?_ | refine r_load_dig rfl hv (by omega) ?_ | refine r_move (by conv => (lhs; whnf)) ?_ | refine r_nil ?_ | refine q_then ?_ | refine r_len (by conv => (lhs; whnf)) (by assumption) ?_ | refine r_guard_run rfl rfl ?_ | refine r_pick_true rfl (by conv => (lhs; whnf)) ?_ | refine r_eql rfl rfl ?_ | refine r_subI rfl rfl (by omega) (by omega) ?_)
    try refine wp_seq_cond ?_
    refine wp_cond_dec rfl ?_ ?_ <;> intro hc2
    · repeat (first | refine wp_region ?_ | refine r_move (by conv => (lhs; whnf)) ?_ | refine q_then ?_ | refine wp_block_region ?_ | refine wp_skip ?_ | refine r_len (by conv => (lhs; whnf)) (by assumption) ?_ | refine r_subI rfl rfl (by omega) (by omega) ?_)
      refine r_slice_row (k := m) (by conv => (lhs; whnf)) hv rfl (by omega) (by omega) (by omega) ?_
      intro v2 hv2
      repeat (first | refine r_assign (by conv => (lhs; whnf)) ?_ | refine r_nil ?_ | refine q_then ?_ | refine q_block ?_)
      refine ⟨by (repeat (first | refine agree_upd rfl ?_ | exact agree_over | refine agree_sub rfl ?_ | exact agree_refl)), m, by omega, rfl, v2, rfl, by omega, ?_, fun i h1 h2 => ?_⟩
      · rw [Nat.mul_one, ← List.map_take, List.take_take, Nat.min_eq_left (by omega)] at hv2
        have e : (l.take m).length = m := by rw [List.length_take]; omega
        show Row _ _ _ _ _ _ _
        rw [e]
        exact hv2
      · by_cases e : i = m
        · subst e; rw [← e0]; omega
        · exact hz i (by omega) h2
    · repeat (first | refine wp_seq_region ?_ | refine wp_region ?_ | refine r_move (by conv => (lhs; whnf)) ?_ | refine r_assign (by conv => (lhs; whnf)) ?_ | refine r_nil ?_ | refine q_then ?_ | refine wp_ret ?_ | refine wp_exit ?_)
      refine end_tmp rfl (by conv => (lhs; whnf)) ⟨rfl, ?_⟩
      rw [canon_take hd hj hz (.inr (by rw [Nat.add_sub_cancel, ← e0]; omega))] at hv
      exact hv
  · repeat (first | refine wp_seq_region ?_ | refine wp_region ?_ | refine r_move (by conv => (lhs; whnf)) ?_ | refine r_assign (by conv => (lhs; whnf)) ?_ | refine r_nil ?_ | refine q_then ?_ | refine wp_ret ?_ | refine wp_exit ?_ | refine r_guard_skip rfl rfl rfl ?_ | refine r_pick_false rfl (by conv => (lhs; whnf)) ?_ | refine wp_cond_false rfl ?_)
    refine end_tmp rfl (by conv => (lhs; whnf)) ⟨rfl, ?_⟩
    rw [canon_take hd hj hz (.inl (by omega))] at hv
    exact hv

theorem cmpN_c {S : Nat → Prop} {w : World} {va vb : Value} {a b : Nat} (ha : NatV S 3 .i64 w va a) (hb : NatV S 3 .i64 w vb b) :
    Gives Tryz.prog 95 [va, vb] w fun v' w' => Ext w w' ∧ ∃ c : Int, v' = .int .i64 c ∧ CmpOk c a b := by
  have la := ha.len_le
  have lb := hb.len_le
  unfold maxLen at la lb
  refine gives_of Tryz.func95 rfl rfl rfl ?_
  repeat (first | refine wp_seq_region ?_ | refine wp_seq_seq ?_ | refine wp_region ?_ | refine r_move (by conv => (lhs; whnf)) ?_ | refine r_assign (by conv => (lhs; whnf)) ?_ | refine r_nil ?_ | refine q_then ?_ | refine r_len (by conv => (lhs; whnf)) (by assumption) ?_ | refine r_neq rfl rfl ?_)
  have hA := canon_dg a
  have hB := canon_dg b
  try refine wp_seq_cond ?_
  refine wp_cond_dec rfl ?_ ?_ <;> intro hc
  · repeat (first | refine wp_seq_region ?_ | refine wp_seq_seq ?_ | refine wp_region ?_ | refine r_move (by conv => (lhs; whnf)) ?_ | refine r_nil ?_ | refine q_then ?_ | refine r_len (by conv => (lhs; whnf)) (by assumption) ?_ | refine r_lss rfl rfl ?_)
    try refine wp_seq_cond ?_
    refine wp_cond_dec rfl ?_ ?_ <;> intro hc2
    · repeat (first | refine wp_seq_region ?_ | refine wp_region ?_ | refine r_assign (by conv => (lhs; whnf)) ?_ | refine r_nil ?_ | refine q_then ?_ | refine wp_ret ?_ | refine q_then_ret ?_)
      refine end_tmp rfl (by conv => (lhs; whnf)) ⟨.refl, _, rfl, ?_⟩
      have := nval_lt_len hA hB (by omega)
      rw [nval_dg, nval_dg] at this
      exact ⟨by omega, by omega⟩
    · repeat (first | refine wp_seq_region ?_ | refine wp_region ?_ | refine r_assign (by conv => (lhs; whnf)) ?_ | refine r_nil ?_ | refine q_then ?_ | refine wp_ret ?_ | refine q_then_ret ?_ | refine wp_skip ?_)
      refine end_tmp rfl (by conv => (lhs; whnf)) ⟨.refl, _, rfl, ?_⟩
      have := nval_lt_len hB hA (by omega)
      rw [nval_dg, nval_dg] at this
      exact ⟨by omega, by omega⟩
  · have hlen : (dg a).length = (dg b).length := by omega
    clear hc
    repeat (first | refine wp_seq_region ?_ | refine wp_seq_seq ?_ | refine wp_region ?_ | refine r_move (by conv => (lhs; whnf)) ?_ | refine r_assign (by conv => (lhs; whnf)) ?_ | refine r_nil ?_ | refine q_then ?_ | refine wp_skip ?_ | refine r_len (by conv => (lhs; whnf)) (by assumption) ?_ | refine r_subI rfl rfl (by omega) (by omega) ?_)
    try refine wp_seq_block ?_
    refine wp_for [(4, 5), (19, 40)] (fun k ρ w' => Ext w w' ∧ ρ 5 = .int .i64 (k - 1) ∧ k ≤ (dg a).length ∧ (dg a).drop k = (dg b).drop k) (dg a).length ⟨.refl, rfl, Nat.le_refl _, by rw [List.drop_of_length_le (Nat.le_refl _), List.drop_of_length_le (by omega)]⟩ ?_
    rintro k u w1 ⟨k1, h5, hk, hd⟩
    refine wp_learn 5 h5 ?_
    clear h5
    replace ha := ha.to k1
    replace hb := hb.to k1
    repeat (first | refine wp_seq_region ?_ | refine wp_seq_seq ?_ | refine wp_region ?_ | refine r_move (by conv => (lhs; whnf)) ?_ | refine r_nil ?_ | refine q_then ?_ | refine r_geq rfl rfl ?_)
    try refine wp_seq_cond ?_
    refine wp_cond_dec rfl ?_ ?_ <;> intro hc
    · obtain ⟨m, rfl⟩ : ∃ m, k = m + 1 := ⟨k - 1, by omega⟩
      repeat (first | refine wp_seq_region ?_ | refine wp_seq_seq ?_ | refine wp_seq_bseq ?_ | refine wp_block_seq ?_ | refine wp_skip ?_)
      refine wp_drawn 8 (by kernel_rfl) (by kernel_rfl) ?_
      apply ob_step
      · intro x w1 k1 hd
        refine r_move (by conv => (lhs; whnf)) ?_
        refine r_nil ?_
        exact ob_eq
      apply ob_step
      · intro x w1 k1 hd
        refine r_move (by conv => (lhs; whnf)) ?_
        refine r_nil ?_
        exact ob_eq
      apply ob_step
      · intro x w1 k1 hd
        refine r_index1 (i := m) (by conv => (lhs; whnf)) rfl (by omega) (ha.to k1) (by omega) ?_
        refine r_nil ?_
        exact ob_eq
      apply ob_step
      · intro x w1 k1 hd
        refine r_load_dig rfl (ha.to k1) (by omega) ?_
        refine r_nil ?_
        exact ob_eq
      apply ob_step
      · intro x w1 k1 hd
        refine r_move (by conv => (lhs; whnf)) ?_
        refine r_nil ?_
        exact ob_eq
      apply ob_step
      · intro x w1 k1 hd
        refine r_move (by conv => (lhs; whnf)) ?_
        refine r_nil ?_
        exact ob_eq
      apply ob_step
      · intro x w1 k1 hd
        refine r_index1 (i := m) (by conv => (lhs; whnf)) rfl (by omega) (hb.to k1) (by omega) ?_
        refine r_nil ?_
        exact ob_eq
      apply ob_step
      · intro x w1 k1 hd
        refine r_load_dig rfl (hb.to k1) (by omega) ?_
        refine r_nil ?_
        exact ob_eq
      refine ob_nil (ob_end ?_)
      intro x w2 k2 _
      have hda := dg_lt a m
      have hdb := dg_lt b m
      repeat (first | refine r_nil ?_ | refine q_then ?_ | refine r_lss rfl rfl ?_)
      try refine wp_seq_cond ?_
      refine wp_cond_dec rfl ?_ ?_ <;> intro hc2
      · repeat (first | refine wp_seq_region ?_ | refine wp_region ?_ | refine r_assign (by conv => (lhs; whnf)) ?_ | refine r_nil ?_ | refine q_then ?_ | refine wp_ret ?_ | refine q_then_ret ?_ | refine q_block_ret ?_)
        refine end_tmp rfl (by conv => (lhs; whnf)) ⟨k1.trans k2, _, rfl, ?_⟩
        have := nval_lt_at hA.1 (by omega) (by omega) hd (show (dg a).getD m 0 < (dg b).getD m 0 by omega)
        rw [nval_dg, nval_dg] at this
        exact ⟨by omega, by omega⟩
      · repeat (first | refine wp_seq_region ?_ | refine wp_skip ?_)
        replace ha := ha.to k2
        replace hb := hb.to k2
        refine wp_drawn 8 (by kernel_rfl) (by kernel_rfl) ?_
        apply ob_step
        · intro x w1 k1 hd
          refine r_move (by conv => (lhs; whnf)) ?_
          refine r_nil ?_
          exact ob_eq
        apply ob_step
        · intro x w1 k1 hd
          refine r_move (by conv => (lhs; whnf)) ?_
          refine r_nil ?_
          exact ob_eq
        apply ob_step
        · intro x w1 k1 hd
          refine r_index1 (i := m) (by conv => (lhs; whnf)) rfl (by omega) (ha.to k1) (by omega) ?_
          refine r_nil ?_
          exact ob_eq
        apply ob_step
        · intro x w1 k1 hd
          refine r_load_dig rfl (ha.to k1) (by omega) ?_
          refine r_nil ?_
          exact ob_eq
        apply ob_step
        · intro x w1 k1 hd
          refine r_move (by conv => (lhs; whnf)) ?_
          refine r_nil ?_
          exact ob_eq
        apply ob_step
        · intro x w1 k1 hd
          refine r_move (by conv => (lhs; whnf)) ?_
          refine r_nil ?_
          exact ob_eq
        apply ob_step
        · intro x w1 k1 hd
          refine r_index1 (i := m) (by conv => (lhs; whnf)) rfl (by omega) (hb.to k1) (by omega) ?_
          refine r_nil ?_
          exact ob_eq
        apply ob_step
        · intro x w1 k1 hd
          refine r_load_dig rfl (hb.to k1) (by omega) ?_
          refine r_nil ?_
          exact ob_eq
        refine ob_nil (ob_end ?_)
        intro x w3 k3 _
        repeat (first | refine r_nil ?_ | refine q_then ?_ | refine r_gtr rfl rfl ?_)
        try refine wp_seq_cond ?_
        refine wp_cond_dec rfl ?_ ?_ <;> intro hc3
        · repeat (first | refine wp_seq_region ?_ | refine wp_region ?_ | refine r_assign (by conv => (lhs; whnf)) ?_ | refine r_nil ?_ | refine q_then ?_ | refine wp_ret ?_ | refine q_then_ret ?_ | refine q_block_ret ?_)
          refine end_tmp rfl (by conv => (lhs; whnf)) ⟨k1.trans (k2.trans k3), _, rfl, ?_⟩
          have := nval_lt_at hB.1 (by omega) (by omega) hd.symm (show (dg b).getD m 0 < (dg a).getD m 0 by omega)
          rw [nval_dg, nval_dg] at this
          exact ⟨by omega, by omega⟩
        · repeat (first | refine wp_region ?_ | refine r_move (by conv => (lhs; whnf)) ?_ | refine r_assign (by conv => (lhs; whnf)) ?_ | refine r_nil ?_ | refine q_then ?_ | refine wp_skip ?_ | refine r_subI rfl rfl (by omega) (by omega) ?_)
          refine ⟨by (repeat (first | refine agree_upd rfl ?_ | exact agree_over | refine agree_sub rfl ?_ | exact agree_refl)), m, by omega, k1.trans (k2.trans k3), congrArg (Value.int .i64) (by omega), by omega, drop_eq_step (by omega) (by omega) hd (by omega)⟩
    · repeat (first | refine wp_seq_region ?_ | refine wp_region ?_ | refine r_assign (by conv => (lhs; whnf)) ?_ | refine r_nil ?_ | refine q_then ?_ | refine wp_ret ?_ | refine wp_exit ?_)
      refine end_tmp rfl (by conv => (lhs; whnf)) ⟨k1, _, rfl, ?_⟩
      obtain rfl : k = 0 := by omega
      simp only [List.drop_zero] at hd
      have h := congrArg nval hd
      rw [nval_dg, nval_dg] at h
      exact ⟨by omega, by omega⟩

theorem subN_c {S : Nat → Prop} {w : World} {va vb : Value} {a b : Nat} (hS : Up S w) (ha : NatV S 3 .i64 w va a) (hb : NatV S 3 .i64 w vb b) (hla : dl a ≤ 17000000000000) (hba : b ≤ a) :
    Gives Tryz.prog 96 [va, vb] w fun v' w' => Ext w w' ∧ NatV S 3 .i64 w' v' (a - b) := by
  have hla' : (dg a).length ≤ 17000000000000 := hla
  have hlb' : (dg b).length ≤ (dg a).length := dl_mono hba
  refine gives_of Tryz.func96 rfl rfl rfl ?_
  repeat (first | refine wp_seq_region ?_ | refine wp_seq_seq ?_ | refine wp_region ?_ | refine r_assign (by conv => (lhs; whnf)) ?_ | refine r_nil ?_ | refine q_then ?_)
  try refine wp_seq_block ?_
  refine wp_for [(5, 38)] (fun k ρ w' => ∃ (l : List Nat) (v : Value) (br : Nat), ρ 5 = v ∧ ρ 6 = .int .i64 br ∧ ρ 7 = .int .i64 (l.length : Int) ∧ br ≤ 1 ∧ l.length + k = (dg a).length ∧ Digs l ∧ nval l + nval ((dg b).take l.length) = nval ((dg a).take l.length) + 1000000000 ^ l.length * br ∧ Ext w w' ∧ Own w.heap.size 3 1 w' v l.length (l.map fun d : Nat => .int .i64 d)) (dg a).length ?_ ?_
  · exact ⟨[], _, 0, rfl, rfl, rfl, by omega, by simp, digs_nil, by simp [nval], .refl, own_nil⟩
  rintro k u w1 ⟨l, v, br, h5, h6, h7, hbr, hk, hdl, hval, k1, ho⟩
  refine wp_learn 5 h5 (wp_learn 6 h6 (wp_learn 7 h7 ?_))
  clear h5 h6 h7
  have ha1 := ha.to k1
  have hb1 := hb.to k1
  have hsz := k1.size
  have hda := dg_lt a l.length
  have hdb := dg_lt b l.length
  have hta := nval_take_step (dg a) l.length
  have htb := nval_take_step (dg b) l.length
  repeat (first | refine wp_seq_region ?_ | refine wp_seq_seq ?_ | refine wp_region ?_ | refine r_move (by conv => (lhs; whnf)) ?_ | refine r_nil ?_ | refine q_then ?_ | refine r_len (by conv => (lhs; whnf)) (by assumption) ?_ | refine r_lss rfl rfl ?_)
  try refine wp_seq_cond ?_
  refine wp_cond_dec rfl ?_ ?_ <;> intro hlt
  · repeat (first | refine r_index1 (i := l.length) (by conv => (lhs; whnf)) rfl rfl ha1 (by omega) ?_ | refine r_load_dig rfl ha1 (by omega) ?_ | refine wp_seq_region ?_ | refine wp_seq_seq ?_ | refine wp_seq_bseq ?_ | refine wp_region ?_ | refine r_move (by conv => (lhs; whnf)) ?_ | refine r_assign (by conv => (lhs; whnf)) ?_ | refine r_nil ?_ | refine q_then ?_ | refine wp_block_seq ?_ | refine wp_skip ?_ | refine r_len (by conv => (lhs; whnf)) (by assumption) ?_ | refine r_lss rfl rfl ?_ | refine r_subI rfl rfl (by omega) (by omega) ?_)
    first | refine wp_seq_cond ?_ | refine wp_thenB ?_ | refine wp_thenBB ?_ | skip
    refine wp_join [(8, 8), (25, 30)] (fun ρ w' => w' = w1 ∧ ρ 8 = .int .i64 (((dg a).getD l.length 0 : Nat) - (br : Int) - ((dg b).getD l.length 0 : Nat))) rfl ?_ ?_ ?_
    · intro hlb
      repeat (first | refine r_index1 (i := l.length) (by conv => (lhs; whnf)) rfl rfl hb1 (by omega) ?_ | refine r_load_dig rfl hb1 (by omega) ?_ | refine wp_region ?_ | refine r_move (by conv => (lhs; whnf)) ?_ | refine r_assign (by conv => (lhs; whnf)) ?_ | refine r_nil ?_ | refine q_then ?_ | refine r_subI rfl rfl (by omega) (by omega) ?_)
      exact ⟨by (repeat (first | refine agree_upd rfl ?_ | exact agree_over | refine agree_sub rfl ?_ | exact agree_refl)), rfl, rfl⟩
    · intro hlb
      repeat (first | refine q_then ?_ | refine wp_skip ?_)
      refine ⟨by (repeat (first | refine agree_upd rfl ?_ | exact agree_over | refine agree_sub rfl ?_ | exact agree_refl)), rfl, congrArg (Value.int .i64) ?_⟩
      rw [getD_out (l := dg b) (by omega)]
      omega
    rintro u2 w2 ⟨rfl, h8⟩
    refine wp_learn 8 h8 ?_
    clear h8
    repeat (first | refine wp_seq_region ?_ | refine wp_seq_seq ?_ | refine wp_region ?_ | refine r_move (by conv => (lhs; whnf)) ?_ | refine r_assign (by conv => (lhs; whnf)) ?_ | refine r_nil ?_ | refine q_then ?_ | refine r_lss rfl rfl ?_)
    obtain ⟨x, hx⟩ : ∃ x, x = (dg a).getD l.length 0 := ⟨_, rfl⟩
    obtain ⟨y, hy⟩ : ∃ y, y = (dg b).getD l.length 0 := ⟨_, rfl⟩
    rw [← hx] at hda hta ⊢
    rw [← hy] at hdb htb ⊢
    first | refine wp_seq_cond ?_ | refine wp_thenB ?_ | refine wp_thenBB ?_ | skip
    refine wp_join [(6, 6), (8, 8), (33, 34)] (fun ρ w' => w' = w2 ∧ ∃ d br' : Nat, ρ 8 = .int .i64 (d : Int) ∧ ρ 6 = .int .i64 (br' : Int) ∧ br' ≤ 1 ∧ d < 1000000000 ∧ d + y + br = x + 1000000000 * br') rfl ?_ ?_ ?_
    · intro hneg
      repeat (first | refine wp_seq_region ?_ | refine wp_region ?_ | refine r_move (by conv => (lhs; whnf)) ?_ | refine r_assign (by conv => (lhs; whnf)) ?_ | refine r_nil ?_ | refine q_then ?_ | refine r_addI rfl rfl (by omega) (by omega) ?_)
      refine ⟨by (repeat (first | refine agree_upd rfl ?_ | exact agree_over | refine agree_sub rfl ?_ | exact agree_refl)), rfl, x + 1000000000 - br - y, 1, congrArg (Value.int .i64) (by omega), rfl, by omega, by omega, by omega⟩
    · intro hneg
      repeat (first | refine q_then ?_ | refine wp_skip ?_)
      refine ⟨by (repeat (first | refine agree_upd rfl ?_ | exact agree_over | refine agree_sub rfl ?_ | exact agree_refl | refine agree_base rfl ?_ | refine agree_base' rfl ?_)), rfl, x - br - y, 0, congrArg (Value.int .i64) (by omega), rfl, by omega, by omega, by omega⟩
    rintro u3 w3 ⟨rfl, d, br', h8, h6, hbr', hd9, hdd⟩
    refine wp_learn 8 h8 (wp_learn 6 h6 ?_)
    clear h8 h6
    repeat (first | refine wp_region ?_ | refine r_move (by conv => (lhs; whnf)) ?_)
    refine r_lit1 (by conv => (lhs; whnf)) rfl ?_
    intro w4 g k4 hg hgs
    refine r_append1 (by conv => (lhs; whnf)) (own_to ho k4) rfl hg (by omega) rfl (by simp [Value.oneCell']) (by unfold maxLen; omega) (by omega) (by have := k4.size; omega) ?_
    intro v5 w5 ho5 k5
    repeat (first | refine wp_region ?_ | refine r_move (by conv => (lhs; whnf)) ?_ | refine r_assign (by conv => (lhs; whnf)) ?_ | refine r_nil ?_ | refine q_then ?_ | refine r_addI rfl rfl (by omega) (by omega) ?_)
    refine ⟨by (repeat (first | refine agree_upd rfl ?_ | exact agree_over | refine agree_sub rfl ?_ | exact agree_refl)), k - 1, by omega, l ++ [d], v5, br', rfl, rfl, congrArg (Value.int .i64) (by rw [List.length_append]; rfl), hbr', by rw [List.length_append]; simp; omega, hdl.append (Digs.cons hd9 digs_nil), ?_, ?_, by simpa using ho5⟩
    · rw [List.length_append, List.length_singleton, nval_snoc, hta, htb, Nat.pow_succ]
      have e1 : 1000000000 ^ l.length * d + 1000000000 ^ l.length * y + 1000000000 ^ l.length * br = 1000000000 ^ l.length * x + 1000000000 ^ l.length * 1000000000 * br' := by
        rw [← Nat.mul_add, ← Nat.mul_add, hdd, Nat.mul_add, Nat.mul_assoc]
      omega
    · exact Keeps.later (k1.trans k4) k5 fun i hi _ e => by have := (ho.lt i e.symm).1; omega
  · repeat (first | refine wp_seq_region ?_ | refine wp_region ?_ | refine r_move (by conv => (lhs; whnf)) ?_ | refine wp_exit ?_)
    refine r_call (rtrim_c (S := S) (v := v) (l := l) (Row.of_own ho hS) hdl) rfl ?_
    rintro v4 w4 ⟨rfl, h4⟩
    repeat (first | refine r_assign (by conv => (lhs; whnf)) ?_ | refine r_nil ?_ | refine q_then ?_ | refine wp_ret ?_)
    refine end_tmp rfl (by conv => (lhs; whnf)) ⟨k1, ?_⟩
    have e : nval l = a - b := by
      have h1 := nval_lt hdl
      rw [nval_take_all (by omega), nval_take_all (by omega), nval_dg, nval_dg] at hval
      have hbr0 : br = 0 := by
        rcases Nat.eq_zero_or_pos br with h | h
        · exact h
        · obtain rfl : br = 1 := by omega
          omega
      subst hbr0
      omega
    rw [e] at h4
    exact h4
end Go.Proofs.YtpmnjjmngogkkaaGreatDoor
