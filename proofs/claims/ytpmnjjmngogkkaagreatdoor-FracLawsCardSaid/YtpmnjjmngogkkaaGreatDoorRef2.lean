/- The reference's natural numbers: products and quotients by a limb, quotients with rests, greatest divisors. -/
import Derived.Test.YtpmnjjmngogkkaaGreatDoorRef1
import Derived.Test.YtpmnjjmngogkkaaGreatDoorMag7
set_option linter.unusedVariables false
set_option linter.unusedSimpArgs false
namespace Go.Proofs.YtpmnjjmngogkkaaGreatDoor
open Go Go.RowKit

theorem rtimes1_c {S : Nat → Prop} {w : World} {va : Value} {a c : Nat} (hS : Up S w) (ha : NatV S 3 .i64 w va a) (hla : dl a ≤ 16000000000000) (hc : c ≤ 1000000000) :
    Gives Tryz.prog 149 [va, .int .i64 (c : Int)] w fun v' w' => Ext w w' ∧ NatV S 3 .i64 w' v' (a * c) := by
  have hla' : (dg a).length ≤ 16000000000000 := hla
  refine gives_of Tryz.func149 rfl rfl rfl ?_
  repeat (first | refine wp_seq_region ?_ | refine wp_seq_seq ?_ | refine wp_region ?_ | refine r_assign (by conv => (lhs; whnf)) ?_ | refine r_nil ?_ | refine q_then ?_)
  try refine wp_seq_block ?_
  refine wp_for [(5, 36)] (fun k ρ w' => ∃ (l : List Nat) (v : Value) (cy : Nat), ρ 5 = v ∧ ρ 6 = .int .i64 cy ∧ ρ 7 = .int .i64 (l.length : Int) ∧ cy ≤ 1000000000 ∧ k = (dg a).length + 3 - l.length ∧ l.length ≤ (dg a).length + 2 ∧ (l.length ≤ (dg a).length ∨ (l.length ≤ (dg a).length + 1 ∧ cy ≤ 1) ∨ cy = 0) ∧ Digs l ∧ nval l + 1000000000 ^ l.length * cy = nval ((dg a).take l.length) * c ∧ Ext w w' ∧ Own w.heap.size 3 1 w' v l.length (l.map fun d : Nat => .int .i64 d)) ((dg a).length + 3) ?_ ?_
  · exact ⟨[], _, 0, rfl, rfl, rfl, by omega, by simp, by simp, .inl (by simp), digs_nil, by simp [nval], .refl, own_nil⟩
  rintro k u w1 ⟨l, v, cy, h5, h6, h7, hcy, hk, hll, hcl, hdl, hval, k1, ho⟩
  refine wp_learn 5 h5 (wp_learn 6 h6 (wp_learn 7 h7 ?_))
  clear h5 h6 h7
  have ha1 := ha.to k1
  have hsz := k1.size
  have hda := dg_lt a l.length
  have hta := nval_take_step (dg a) l.length
  repeat (first | refine wp_seq_region ?_ | refine wp_seq_seq ?_ | refine wp_region ?_ | refine r_move (by conv => (lhs; whnf)) ?_ | refine r_len (by conv => (lhs; whnf)) (by assumption) ?_ | refine r_lss rfl rfl ?_)
  refine r_mid [(11, 15)] (fun ρ w' => ρ 15 = .bool (tst (l.length < (dg a).length ∨ 0 < cy)) ∧ w' = w1) ?_ ?_
  · refine r_guard_split rfl rfl ?_ ?_ <;> intro hlt
    · repeat (first | refine r_nil ?_ | refine q_then ?_ | refine r_guard_skip rfl rfl rfl ?_ | refine r_pick_true rfl (by conv => (lhs; whnf)) ?_)
      exact ⟨by (repeat (first | refine agree_upd rfl ?_ | exact agree_over | refine agree_sub rfl ?_ | exact agree_refl | refine agree_base rfl ?_ | refine agree_base' rfl ?_)), by rw [tst_true (Or.inl (by omega))]; rfl, rfl⟩
    · repeat (first | refine r_move (by conv => (lhs; whnf)) ?_ | refine r_nil ?_ | refine q_then ?_ | refine r_guard_run rfl rfl ?_ | refine r_pick_false rfl (by conv => (lhs; whnf)) ?_ | refine r_gtr rfl rfl ?_)
      refine ⟨by (repeat (first | refine agree_upd rfl ?_ | exact agree_over | refine agree_sub rfl ?_ | exact agree_refl | refine agree_base rfl ?_ | refine agree_base' rfl ?_)), congrArg Value.bool (tst_congr ?_), rfl⟩
      omega
  rintro u1 w2 ⟨h15, rfl⟩
  refine wp_learn 15 h15 ?_
  clear h15
  skip
  try refine wp_seq_cond ?_
  refine wp_cond_dec rfl ?_ ?_ <;> intro hlt
  · repeat (first | refine wp_seq_region ?_ | refine wp_seq_seq ?_ | refine wp_seq_bseq ?_ | refine wp_region ?_ | refine r_move (by conv => (lhs; whnf)) ?_ | refine r_nil ?_ | refine q_then ?_ | refine wp_block_seq ?_ | refine wp_skip ?_ | refine r_len (by conv => (lhs; whnf)) (by assumption) ?_ | refine r_lss rfl rfl ?_)
    first | refine wp_seq_cond ?_ | refine wp_thenB ?_ | refine wp_thenBB ?_ | skip
    refine wp_join [(6, 6), (22, 29)] (fun ρ w' => w' = w2 ∧ ρ 6 = .int .i64 ((cy + (dg a).getD l.length 0 * c : Nat) : Int)) rfl ?_ ?_ ?_
    · intro hla2
      have hmul : (dg a).getD l.length 0 * c ≤ 999999999 * 1000000000 := Nat.mul_le_mul (by omega) hc
      have hmi : (((dg a).getD l.length 0 : Nat) : Int) * (c : Int) = (((dg a).getD l.length 0 * c : Nat) : Int) := (Int.natCast_mul ..).symm
      repeat (first | refine r_index1 (i := l.length) (by conv => (lhs; whnf)) rfl rfl ha1 (by omega) ?_ | refine r_load_dig rfl ha1 (by omega) ?_ | refine r_mulI rfl rfl (by rw [hmi]; omega) (by rw [hmi]; omega) ?_ | refine r_addI rfl rfl (by rw [hmi]; omega) (by rw [hmi]; omega) ?_ | refine wp_region ?_ | refine r_move (by conv => (lhs; whnf)) ?_ | refine r_assign (by conv => (lhs; whnf)) ?_ | refine r_nil ?_ | refine q_then ?_)
      exact ⟨by (repeat (first | refine agree_upd rfl ?_ | exact agree_over | refine agree_sub rfl ?_ | exact agree_refl)), rfl, congrArg (Value.int .i64) (by rw [hmi, Int.natCast_add])⟩
    · intro hla2
      repeat (first | refine q_then ?_ | refine wp_skip ?_)
      refine ⟨by (repeat (first | refine agree_upd rfl ?_ | exact agree_over | refine agree_sub rfl ?_ | exact agree_refl | refine agree_base rfl ?_ | refine agree_base' rfl ?_)), rfl, congrArg (Value.int .i64) ?_⟩
      rw [getD_out (l := dg a) (by omega)]
      omega
    rintro u2 w3 ⟨rfl, h6⟩
    refine wp_learn 6 h6 ?_
    clear h6
    obtain ⟨x, hx⟩ : ∃ x, x = (dg a).getD l.length 0 := ⟨_, rfl⟩
    rw [← hx] at hda hta ⊢
    have hmul : x * c ≤ 999999999 * 1000000000 := Nat.mul_le_mul (by omega) hc
    have hcn := carry_nat (x := x * c) hval
    obtain ⟨s, hs⟩ : ∃ s, s = cy + x * c := ⟨_, rfl⟩
    rw [← hs] at hcn ⊢
    have hs0 : (dg a).length ≤ l.length → x = 0 := fun h => by rw [hx]; exact getD_out h
    have hs1 : x = 0 → s = cy := fun h => by rw [hs, h]; omega
    repeat (first | refine wp_seq_region ?_ | refine wp_region ?_ | refine r_move (by conv => (lhs; whnf)) ?_ | refine r_remP rfl rfl (by omega) (by omega) ?_)
    refine r_lit1 (by conv => (lhs; whnf)) rfl ?_
    intro w4 g k4 hg hgs
    refine r_append1 (by conv => (lhs; whnf)) (own_to ho k4) rfl hg (by omega) rfl (by simp [Value.oneCell']) (by unfold maxLen; omega) (by omega) (by have := k4.size; omega) ?_
    intro v5 w5 ho5 k5
    have hlen : (l ++ [s % 1000000000]).length = l.length + 1 := by rw [List.length_append]; rfl
    repeat (first | refine wp_region ?_ | refine r_move (by conv => (lhs; whnf)) ?_ | refine r_assign (by conv => (lhs; whnf)) ?_ | refine r_nil ?_ | refine q_then ?_ | refine r_addI rfl rfl (by omega) (by omega) ?_ | refine r_quoI rfl rfl (by omega) (by omega) (by omega) ?_)
    refine ⟨by (repeat (first | refine agree_upd rfl ?_ | exact agree_over | refine agree_sub rfl ?_ | exact agree_refl | refine agree_base rfl ?_ | refine agree_base' rfl ?_)), (dg a).length + 3 - (l.length + 1), by omega, l ++ [s % 1000000000], v5, s / 1000000000, rfl, congrArg (Value.int .i64) (by omega), congrArg (Value.int .i64) (by rw [hlen]; omega), by omega, by rw [hlen], ?_, ?_, hdl.append (Digs.cons (by omega) digs_nil), ?_, ?_, by simpa using ho5⟩
    · rw [hlen]
      rcases Nat.lt_or_ge l.length (dg a).length with h | h
      · omega
      · have e1 := hs1 (hs0 h); omega
    · rw [hlen]
      rcases Nat.lt_or_ge l.length (dg a).length with h | h
      · exact .inl (by omega)
      · have e1 := hs1 (hs0 h); omega
    · rw [hlen, nval_snoc, hcn, hta, Nat.add_mul, Nat.mul_assoc]
    · exact Keeps.later (k1.trans k4) k5 fun i hi _ e => by have := (ho.lt i e.symm).1; omega
  · repeat (first | refine wp_seq_region ?_ | refine wp_region ?_ | refine r_move (by conv => (lhs; whnf)) ?_ | refine wp_exit ?_)
    refine r_call (rtrim_c (S := S) (v := v) (l := l) (Row.of_own ho hS) hdl) rfl ?_
    rintro v4 w4 ⟨rfl, h4⟩
    repeat (first | refine r_assign (by conv => (lhs; whnf)) ?_ | refine r_nil ?_ | refine q_then ?_ | refine wp_ret ?_)
    refine end_tmp rfl (by conv => (lhs; whnf)) ⟨k1, ?_⟩
    have e : nval l = a * c := by
      have hcy0 : cy = 0 := by omega
      subst hcy0
      rw [nval_take_all (by omega), nval_dg] at hval
      omega
    rw [e] at h4
    exact h4

theorem small_c2 {S : Nat → Prop} {w : World} {va : Value} {a c : Nat} (hS : Up S w) (ha : NatV S 3 .i64 w va a) (hla : dl a ≤ 16000000000000) (hc : c ≤ 1000000000) (hc0 : 0 < c) :
    Gives Tryz.prog 150 [va, .int .i64 (c : Int)] w fun v' w' => ∃ vq, v' = .tuple #[vq, .int .i64 ((a % c : Nat) : Int)] ∧ Ext w w' ∧ NatV S 3 .i64 w' vq (a / c) := by
  have hla' : (dg a).length ≤ 16000000000000 := hla
  refine gives_of Tryz.func150 rfl rfl rfl ?_
  repeat (first | refine wp_seq_region ?_ | refine wp_region ?_ | refine r_move (by conv => (lhs; whnf)) ?_ | refine r_assign (by conv => (lhs; whnf)) ?_ | refine r_nil ?_ | refine r_len (by conv => (lhs; whnf)) (by assumption) ?_)
  refine r_make (l := (dg a).length) (c := (dg a).length) rfl rfl rfl rfl (Nat.le_refl _) (by omega) (by unfold maxLen; omega) ?_
  intro w2 q k2 hg hgs
  have hg : Blk w2 q 3 ((List.replicate (dg a).length 0).map fun d : Nat => .int .i64 d) := by
    simpa [toList_madeCells_one, Value.cells, List.map_replicate] using hg
  have ha2 := (ha.mono (S' := fun k => S k ∧ k ≠ q) fun i hi hs => ⟨hs, by omega⟩).to k2
  repeat (first | refine wp_seq_region ?_ | refine wp_seq_seq ?_ | refine wp_region ?_ | refine r_move (by conv => (lhs; whnf)) ?_ | refine r_assign (by conv => (lhs; whnf)) ?_ | refine r_nil ?_ | refine q_then ?_ | refine r_len (by conv => (lhs; whnf)) (by assumption) ?_ | refine r_subI rfl rfl (by omega) (by omega) ?_)
  try refine wp_seq_block ?_
  refine wp_for [(7, 8), (15, 34)] (fun k ρ w' => ∃ (o : List Nat) (r : Nat), ρ 8 = .int .i64 ((k : Int) - 1) ∧ ρ 7 = .int .i64 (r : Int) ∧ r < c ∧ k ≤ o.length ∧ o.length = (dg a).length ∧ Digs o ∧
        nval ((dg a).drop k) = nval (o.drop k) * c + r ∧ Blk w' q 3 (o.map fun d : Nat => .int .i64 d) ∧ Keeps (fun k => k ≠ q) w2 w') (dg a).length ?_ ?_
  · exact ⟨List.replicate (dg a).length 0, 0, rfl, rfl, hc0, by simp, by simp, fun x hx => by rw [List.eq_of_mem_replicate hx]; omega, by simp [nval], hg, .refl⟩
  rintro k u w3 ⟨o, r, h8, h7, hr, hko, hol, hod, hv, hg3, k3⟩
  refine wp_learn 8 h8 (wp_learn 7 h7 ?_)
  clear h8 h7 hg
  have ha3 : NatV (fun k => S k ∧ k ≠ q) 3 .i64 w3 va a := ha2.keep (k3.mono fun i hi => hi.2)
  repeat (first | refine wp_seq_region ?_ | refine wp_seq_seq ?_ | refine wp_region ?_ | refine r_move (by conv => (lhs; whnf)) ?_ | refine r_nil ?_ | refine q_then ?_ | refine r_geq rfl rfl ?_)
  try refine wp_seq_cond ?_
  refine wp_cond_dec rfl ?_ ?_ <;> intro hk
  · obtain ⟨m, rfl⟩ : ∃ m, k = m + 1 := ⟨k - 1, by omega⟩
    have hda := dg_lt a m
    repeat (first | refine r_index_own (i := m) rfl rfl (by omega) (by omega) ?_ | refine r_mulI rfl rfl (by omega) (by omega) ?_ | refine r_index1 (i := m) (by conv => (lhs; whnf)) rfl (by omega) ha3 (by omega) ?_ | refine r_load_dig rfl ha3 (by omega) ?_ | refine wp_seq_region ?_ | refine wp_seq_bseq ?_ | refine wp_region ?_ | refine r_move (by conv => (lhs; whnf)) ?_ | refine r_assign (by conv => (lhs; whnf)) ?_ | refine r_nil ?_ | refine wp_block_seq ?_ | refine wp_skip ?_ | refine r_addI rfl rfl (by omega) (by omega) ?_ | refine r_quoI rfl rfl (by omega) (by omega) (by omega) ?_)
    have hdr := drop_step (show m < (dg a).length by omega)
    rw [hv] at hdr
    obtain ⟨d, hd⟩ : ∃ d, d = (dg a).getD m 0 := ⟨_, rfl⟩
    rw [← hd] at hda hdr ⊢
    have hdo := drop_step (show m < o.length by omega)
    obtain ⟨s, hs⟩ : ∃ s, s = r * 1000000000 + d := ⟨_, rfl⟩
    have hsi : (r : Int) * 1000000000 + (d : Int) = (s : Int) := by omega
    rw [hsi]
    have hsb : s < c * 1000000000 := by
      have : r * 1000000000 + 1000000000 ≤ c * 1000000000 := by omega
      omega
    have hq9 : s / c < 1000000000 := Nat.div_lt_of_lt_mul hsb
    have hqm := Nat.div_add_mod s c
    have hrm := Nat.mod_lt s hc0
    have hdi : (s : Int) / (c : Int) = ((s / c : Nat) : Int) := rfl
    have hmi : (s : Int) % (c : Int) = ((s % c : Nat) : Int) := rfl
    have hsle : s ≤ 1000000000000000000 := by
      have : c * 1000000000 ≤ 1000000000 * 1000000000 := Nat.mul_le_mul_right _ hc
      omega
    refine r_store_digs (c := s / c) rfl rfl hdi hg3 (by omega) ?_
    intro w4 k4 hg4
    repeat (first | refine wp_region ?_ | refine r_move (by conv => (lhs; whnf)) ?_ | refine r_assign (by conv => (lhs; whnf)) ?_ | refine r_nil ?_ | refine q_then ?_ | refine r_subI rfl rfl (by omega) (by omega) ?_ | refine r_remP rfl rfl (by omega) (by omega) ?_)
    refine ⟨by (repeat (first | refine agree_upd rfl ?_ | exact agree_over | refine agree_sub rfl ?_ | exact agree_refl | refine agree_base rfl ?_ | refine agree_base' rfl ?_)), m, by omega, o.set m (s / c), s % c, congrArg (Value.int .i64) (by omega), rfl, hrm, by rw [List.length_set]; omega, by rw [List.length_set]; omega, hod.set hq9 _, ?_, hg4, k3.trans k4⟩
    have hds := drop_step (l := o.set m (s / c)) (m := m) (by rw [List.length_set]; omega)
    rw [getD_set_self (by omega), drop_set_lt] at hds
    rw [hdr, hds, Nat.mul_add, Nat.add_mul, Nat.mul_assoc]
    have e : s / c * c + s % c = d + 1000000000 * r := by rw [Nat.mul_comm (s / c), hqm, hs]; omega
    omega
  · obtain rfl : k = 0 := by omega
    rw [List.drop_zero, List.drop_zero, nval_dg] at hv
    repeat (first | refine wp_seq_region ?_ | refine wp_region ?_ | refine r_move (by conv => (lhs; whnf)) ?_ | refine wp_exit ?_)
    refine r_call (rtrim_c (S := S) (v := .slice (some ⟨q, 0, none⟩) (dg a).length (dg a).length) (l := o) ?_ hod) rfl ?_
    · have h4 := Row.of_blk (S := S) (s := 1) (n := o.length) (cap := o.length) hg3 (hS q (by omega)) (Nat.le_refl _) (by unfold maxLen; omega) (by simp)
      rw [Nat.mul_one, List.take_of_length_le (by simp)] at h4
      rw [← hol]
      exact h4
    · rintro v4 w4 ⟨rfl, h4⟩
      have hdiv : a / c = nval o := by
        rw [hv, Nat.add_comm, Nat.add_mul_div_right _ _ hc0, Nat.div_eq_of_lt hr, Nat.zero_add]
      have hmod : a % c = r := by
        rw [hv, Nat.mul_comm, Nat.mul_add_mod, Nat.mod_eq_of_lt hr]
      repeat (first | refine r_move (by conv => (lhs; whnf)) ?_ | refine r_assign (by conv => (lhs; whnf)) ?_ | refine r_nil ?_ | refine q_then ?_ | refine wp_ret ?_)
      refine end_tmp2 rfl (by conv => (lhs; whnf)) (by conv => (lhs; whnf)) ⟨v4, by rw [hmod], ?_, ?_⟩
      · exact Keeps.later k2 k3 fun i hi _ => by omega
      · rw [hdiv]; exact h4
end Go.Proofs.YtpmnjjmngogkkaaGreatDoor
