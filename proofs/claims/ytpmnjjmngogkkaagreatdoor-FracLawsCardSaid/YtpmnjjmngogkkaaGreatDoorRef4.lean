/- The reference's natural numbers: sums, products. -/
import Derived.Test.YtpmnjjmngogkkaaGreatDoorRef2
set_option linter.unusedVariables false
set_option linter.unusedSimpArgs false
namespace Go.Proofs.YtpmnjjmngogkkaaGreatDoor
open Go Go.RowKit

theorem canon_of_le {l : List Nat} (hd : Digs l) (h : l ≠ [] → 1000000000 ^ (l.length - 1) ≤ nval l) : Canon l := by
  refine ⟨hd, fun hne h0 => ?_⟩
  have h1 := h hne
  have e := List.dropLast_concat_getLast hne
  rw [h0] at e
  have h2 : nval l = nval l.dropLast := by
    conv => lhs; rw [← e]
    rw [nval_snoc]
    simp
  have h3 : Digs l.dropLast := fun x hx => hd x (List.dropLast_subset _ hx)
  have h4 := nval_lt h3
  rw [List.length_dropLast] at h4
  omega
theorem dl_low {a : Nat} (h : 0 < dl a) : 1000000000 ^ (dl a - 1) ≤ a := by
  have h1 := pow_le_of_canon (canon_dg a) (by intro e; unfold dl at h; rw [e] at h; simp at h)
  rw [nval_dg] at h1
  exact h1

theorem addN_c {S : Nat → Prop} {w : World} {va vb : Value} {a b : Nat} (hS : Up S w) (ha : NatV S 3 .i64 w va a) (hb : NatV S 3 .i64 w vb b) (hla : dl a ≤ 16000000000000) (hlb : dl b ≤ 16000000000000) :
    Gives Tryz.prog 94 [va, vb] w fun v' w' => Ext w w' ∧ NatV S 3 .i64 w' v' (a + b) := by
  have hla' : (dg a).length ≤ 16000000000000 := hla
  have hlb' : (dg b).length ≤ 16000000000000 := hlb
  obtain ⟨M, hM⟩ : ∃ M, M = max (dg a).length (dg b).length := ⟨_, rfl⟩
  refine gives_of Tryz.func94 rfl rfl rfl ?_
  repeat (first | refine wp_seq_region ?_ | refine wp_seq_seq ?_ | refine wp_region ?_ | refine r_assign (by conv => (lhs; whnf)) ?_ | refine r_nil ?_ | refine q_then ?_)
  try refine wp_seq_block ?_
  refine wp_for [(5, 50)] (fun k ρ w' => ∃ (l : List Nat) (v : Value) (cy : Nat), ρ 5 = v ∧ ρ 6 = .int .i64 cy ∧ ρ 7 = .int .i64 (l.length : Int) ∧ cy ≤ 1 ∧ k = M + 2 - l.length ∧ (l.length ≤ M ∨ (l.length = M + 1 ∧ cy = 0 ∧ 1000000000 ^ M ≤ a + b)) ∧ Digs l ∧ nval l + 1000000000 ^ l.length * cy = nval ((dg a).take l.length) + nval ((dg b).take l.length) ∧ Ext w w' ∧ Own w.heap.size 3 1 w' v l.length (l.map fun d : Nat => .int .i64 d)) (M + 2) ?_ ?_
  · exact ⟨[], _, 0, rfl, rfl, rfl, by omega, by simp, .inl (by simp), digs_nil, by simp [nval], .refl, own_nil⟩
  rintro k u w1 ⟨l, v, cy, h5, h6, h7, hcy, hk, hll, hdl, hval, k1, ho⟩
  refine wp_learn 5 h5 (wp_learn 6 h6 (wp_learn 7 h7 ?_))
  clear h5 h6 h7
  have ha1 := ha.to k1
  have hb1 := hb.to k1
  have hsz := k1.size
  have hda := dg_lt a l.length
  have hdb := dg_lt b l.length
  have hta := nval_take_step (dg a) l.length
  have htb := nval_take_step (dg b) l.length
  repeat (first | refine wp_seq_region ?_ | refine wp_seq_seq ?_ | refine wp_region ?_ | refine r_move (by conv => (lhs; whnf)) ?_ | refine r_len (by conv => (lhs; whnf)) (by assumption) ?_ | refine r_lss rfl rfl ?_)
  refine r_mid [(12, 21)] (fun ρ w' => ρ 21 = .bool (tst ((l.length < (dg a).length ∨ l.length < (dg b).length) ∨ 0 < cy)) ∧ w' = w1) ?_ ?_
  · refine r_guard_split rfl rfl ?_ ?_ <;> intro hlt
    · repeat (first | refine r_move (by conv => (lhs; whnf)) ?_ | refine r_nil ?_ | refine q_then ?_ | refine r_guard_skip rfl rfl rfl ?_ | refine r_pick_true rfl (by conv => (lhs; whnf)) ?_)
      exact ⟨by (repeat (first | refine agree_upd rfl ?_ | exact agree_over | refine agree_sub rfl ?_ | exact agree_refl | refine agree_base rfl ?_ | refine agree_base' rfl ?_)), by rw [tst_true (Or.inl (Or.inl (by omega)))]; rfl, rfl⟩
    · repeat (first | refine r_move (by conv => (lhs; whnf)) ?_ | refine r_len (by conv => (lhs; whnf)) (by assumption) ?_ | refine r_guard_run rfl rfl ?_ | refine r_pick_false rfl (by conv => (lhs; whnf)) ?_ | refine r_lss rfl rfl ?_)
      refine r_guard_split rfl rfl ?_ ?_ <;> intro hlt2
      · repeat (first | refine r_nil ?_ | refine q_then ?_ | refine r_guard_skip rfl rfl rfl ?_ | refine r_pick_true rfl (by conv => (lhs; whnf)) ?_)
        exact ⟨by (repeat (first | refine agree_upd rfl ?_ | exact agree_over | refine agree_sub rfl ?_ | exact agree_refl | refine agree_base rfl ?_ | refine agree_base' rfl ?_)), by rw [tst_true (Or.inl (Or.inr (by omega)))]; rfl, rfl⟩
      · repeat (first | refine r_move (by conv => (lhs; whnf)) ?_ | refine r_nil ?_ | refine q_then ?_ | refine r_guard_run rfl rfl ?_ | refine r_pick_false rfl (by conv => (lhs; whnf)) ?_ | refine r_gtr rfl rfl ?_)
        refine ⟨by (repeat (first | refine agree_upd rfl ?_ | exact agree_over | refine agree_sub rfl ?_ | exact agree_refl | refine agree_base rfl ?_ | refine agree_base' rfl ?_)), congrArg Value.bool (tst_congr ?_), rfl⟩
        omega
  rintro u2 w3 ⟨h21, rfl⟩
  refine wp_learn 21 h21 ?_
  clear h21
  skip
  try refine wp_seq_cond ?_
  refine wp_cond_dec rfl ?_ ?_ <;> intro hlt
  · repeat (first | refine wp_seq_region ?_ | refine wp_seq_seq ?_ | refine wp_seq_bseq ?_ | refine wp_region ?_ | refine r_move (by conv => (lhs; whnf)) ?_ | refine r_nil ?_ | refine q_then ?_ | refine wp_block_seq ?_ | refine wp_skip ?_ | refine r_len (by conv => (lhs; whnf)) (by assumption) ?_ | refine r_lss rfl rfl ?_)
    first | refine wp_seq_cond ?_ | refine wp_thenB ?_ | refine wp_thenBB ?_ | skip
    refine wp_join [(6, 6), (28, 33)] (fun ρ w' => w' = w3 ∧ ρ 6 = .int .i64 ((cy + (dg a).getD l.length 0 : Nat) : Int)) rfl ?_ ?_ ?_
    · intro hl2
      repeat (first | refine r_index1 (i := l.length) (by conv => (lhs; whnf)) rfl rfl ha1 (by omega) ?_ | refine r_load_dig rfl ha1 (by omega) ?_ | refine wp_region ?_ | refine r_move (by conv => (lhs; whnf)) ?_ | refine r_assign (by conv => (lhs; whnf)) ?_ | refine r_nil ?_ | refine q_then ?_ | refine r_addI rfl rfl (by omega) (by omega) ?_)
      exact ⟨by (repeat (first | refine agree_upd rfl ?_ | exact agree_over | refine agree_sub rfl ?_ | exact agree_refl)), rfl, rfl⟩
    · intro hl2
      repeat (first | refine q_then ?_ | refine wp_skip ?_)
      refine ⟨by (repeat (first | refine agree_upd rfl ?_ | exact agree_over | refine agree_sub rfl ?_ | exact agree_refl | refine agree_base rfl ?_ | refine agree_base' rfl ?_)), rfl, congrArg (Value.int .i64) ?_⟩
      rw [getD_out (l := dg a) (by omega)]
      omega
    rintro u3 w4 ⟨rfl, h6⟩
    refine wp_learn 6 h6 ?_
    clear h6
    obtain ⟨x, hx⟩ : ∃ x, x = (dg a).getD l.length 0 := ⟨_, rfl⟩
    rw [← hx] at hda hta ⊢
    repeat (first | refine wp_seq_region ?_ | refine wp_seq_seq ?_ | refine wp_region ?_ | refine r_move (by conv => (lhs; whnf)) ?_ | refine r_nil ?_ | refine q_then ?_ | refine r_len (by conv => (lhs; whnf)) (by assumption) ?_ | refine r_lss rfl rfl ?_)
    first | refine wp_seq_cond ?_ | refine wp_thenB ?_ | refine wp_thenBB ?_ | skip
    refine wp_join [(6, 6), (38, 43)] (fun ρ w' => w' = w4 ∧ ρ 6 = .int .i64 ((cy + x + (dg b).getD l.length 0 : Nat) : Int)) rfl ?_ ?_ ?_
    · intro hl2
      repeat (first | refine r_index1 (i := l.length) (by conv => (lhs; whnf)) rfl rfl hb1 (by omega) ?_ | refine r_load_dig rfl hb1 (by omega) ?_ | refine wp_region ?_ | refine r_move (by conv => (lhs; whnf)) ?_ | refine r_assign (by conv => (lhs; whnf)) ?_ | refine r_nil ?_ | refine q_then ?_ | refine r_addI rfl rfl (by omega) (by omega) ?_)
      exact ⟨by (repeat (first | refine agree_upd rfl ?_ | exact agree_over | refine agree_sub rfl ?_ | exact agree_refl)), rfl, rfl⟩
    · intro hl2
      repeat (first | refine q_then ?_ | refine wp_skip ?_)
      refine ⟨by (repeat (first | refine agree_upd rfl ?_ | exact agree_over | refine agree_sub rfl ?_ | exact agree_refl | refine agree_base rfl ?_ | refine agree_base' rfl ?_)), rfl, congrArg (Value.int .i64) ?_⟩
      rw [getD_out (l := dg b) (by omega)]
      omega
    rintro u4 w5 ⟨rfl, h6⟩
    refine wp_learn 6 h6 ?_
    clear h6
    obtain ⟨y, hy⟩ : ∃ y, y = (dg b).getD l.length 0 := ⟨_, rfl⟩
    rw [← hy] at hdb htb ⊢
    have hcn := carry_nat (x := x + y) hval
    obtain ⟨s, hs⟩ : ∃ s, s = cy + x + y := ⟨_, rfl⟩
    rw [← Nat.add_assoc, ← hs] at hcn
    rw [← hs]
    have hs0 : M ≤ l.length → s = cy := fun h => by rw [hs, hx, hy, getD_out (by omega), getD_out (by omega)]; omega
    repeat (first | refine wp_seq_region ?_ | refine wp_region ?_ | refine r_move (by conv => (lhs; whnf)) ?_ | refine r_remP rfl rfl (by omega) (by omega) ?_)
    refine r_lit1 (by conv => (lhs; whnf)) rfl ?_
    intro w6 g k6 hg hgs
    refine r_append1 (by conv => (lhs; whnf)) (own_to ho k6) rfl hg (by omega) rfl (by simp [Value.oneCell']) (by unfold maxLen; omega) (by omega) (by have := k6.size; omega) ?_
    intro v7 w7 ho7 k7
    have hlen : (l ++ [s % 1000000000]).length = l.length + 1 := by rw [List.length_append]; rfl
    repeat (first | refine wp_region ?_ | refine r_move (by conv => (lhs; whnf)) ?_ | refine r_assign (by conv => (lhs; whnf)) ?_ | refine r_nil ?_ | refine q_then ?_ | refine r_addI rfl rfl (by omega) (by omega) ?_ | refine r_quoI rfl rfl (by omega) (by omega) (by omega) ?_)
    refine ⟨by (repeat (first | refine agree_upd rfl ?_ | exact agree_over | refine agree_sub rfl ?_ | exact agree_refl | refine agree_base rfl ?_ | refine agree_base' rfl ?_)), M + 2 - (l.length + 1), by omega, l ++ [s % 1000000000], v7, s / 1000000000, rfl, congrArg (Value.int .i64) (by omega), congrArg (Value.int .i64) (by rw [hlen]; omega), by omega, by rw [hlen], ?_, hdl.append (Digs.cons (by omega) digs_nil), ?_, ?_, by simpa using ho7⟩
    · rw [hlen]
      rcases Nat.lt_or_ge l.length M with h | h
      · exact .inl (by omega)
      · have e1 := hs0 h
        have e2 : l.length = M := by omega
        have e3 : cy = 1 := by omega
        refine .inr ⟨by omega, by omega, ?_⟩
        rw [e2, e3, nval_take_all (by omega), nval_take_all (by omega), nval_dg, nval_dg] at hval
        omega
    · rw [hlen, nval_snoc, hcn, hta, htb, Nat.mul_add]
      omega
    · exact Keeps.later (k1.trans k6) k7 fun i hi _ e => by have := (ho.lt i e.symm).1; omega
  · repeat (first | refine wp_seq_region ?_ | refine wp_region ?_ | refine r_move (by conv => (lhs; whnf)) ?_ | refine r_assign (by conv => (lhs; whnf)) ?_ | refine r_nil ?_ | refine q_then ?_ | refine wp_ret ?_ | refine wp_exit ?_)
    have e : nval l = a + b := by
      have hcy0 : cy = 0 := by omega
      subst hcy0
      rw [nval_take_all (by omega), nval_take_all (by omega), nval_dg, nval_dg] at hval
      omega
    have hcan : Canon l := canon_of_le hdl fun hne => by
      have hl0 : 0 < l.length := List.length_pos_iff.2 hne
      rw [e]
      rcases hll with h | ⟨h, _, h2⟩
      · rcases Nat.lt_or_ge (dg a).length (dg b).length with h3 | h3
        · have e4 : l.length = dl b := by unfold dl; omega
          have := dl_low (a := b) (by omega)
          rw [e4]
          omega
        · have e4 : l.length = dl a := by unfold dl; omega
          have := dl_low (a := a) (by omega)
          rw [e4]
          omega
      · rw [h, Nat.add_sub_cancel]; exact h2
    refine end_tmp rfl (by conv => (lhs; whnf)) ⟨k1, ?_⟩
    have h8 := Row.of_own ho hS
    show Sl _ _ _ _ _ _
    rw [← e, dg_of_canon hcan]
    exact h8

theorem mulN_c {S : Nat → Prop} {w : World} {va vb : Value} {a b : Nat} (hS : Up S w) (ha : NatV S 3 .i64 w va a) (hb : NatV S 3 .i64 w vb b) (hla : dl a ≤ 8000000000000) (hlb : dl b ≤ 8000000000000) :
    Gives Tryz.prog 97 [va, vb] w fun v' w' => Ext w w' ∧ NatV S 3 .i64 w' v' (a * b) := by
  have hla' : (dg a).length ≤ 8000000000000 := hla
  have hlb' : (dg b).length ≤ 8000000000000 := hlb
  refine gives_of Tryz.func97 rfl rfl rfl ?_
  repeat (first | refine wp_seq_region ?_ | refine wp_region ?_ | refine r_move (by conv => (lhs; whnf)) ?_ | refine r_assign (by conv => (lhs; whnf)) ?_ | refine r_nil ?_ | refine r_len (by conv => (lhs; whnf)) (by assumption) ?_ | refine r_addI rfl rfl (by omega) (by omega) ?_)
  refine r_make (l := (dg a).length + (dg b).length) (c := (dg a).length + (dg b).length) rfl rfl (by omega) (by omega) (Nat.le_refl _) (by omega) (by unfold maxLen; omega) ?_
  intro w1 g k1 hg hgs
  have hg : Blk w1 g 3 ((List.replicate ((dg a).length + (dg b).length) 0).map fun d : Nat => .int .i64 d) := by
    simpa [toList_madeCells_one, Value.cells, List.map_replicate] using hg
  have ha0 := ha.mono (S' := fun k => S k ∧ k < w.heap.size) fun i hi hs => ⟨hs, hi⟩
  have hb0 := hb.mono (S' := fun k => S k ∧ k < w.heap.size) fun i hi hs => ⟨hs, hi⟩
  repeat (first | refine wp_seq_region ?_ | refine wp_seq_seq ?_ | refine wp_region ?_ | refine r_assign (by conv => (lhs; whnf)) ?_ | refine r_nil ?_ | refine q_then ?_)
  try refine wp_seq_block ?_
  refine wp_for [(6, 9), (16, 63)] (fun k ρ w' => ∃ (i : Nat) (o : List Nat), k + i = (dg a).length ∧ ρ 6 = .int .i64 i ∧ o.length = (dg a).length + (dg b).length ∧ Digs o ∧ nval o = nval ((dg a).take i) * b ∧ (∀ j, i + (dg b).length ≤ j → o.getD j 0 = 0) ∧
      Blk w' g 3 (o.map fun d : Nat => .int .i64 d) ∧ Keeps (fun k => k < w.heap.size) w w') (dg a).length
    ⟨0, List.replicate ((dg a).length + (dg b).length) 0, by omega, rfl, by simp, fun x hx => by rw [List.eq_of_mem_replicate hx]; omega, by rw [nval_zeros]; simp [nval], fun j _ => by simp [List.getD_eq_getElem?_getD, List.getElem?_replicate]; split <;> rfl, hg, k1.mono fun _ _ => trivial⟩ ?_
  rintro k u w2 ⟨i, o, hki, h6, hol, hod, hv, hz, hg2, k2⟩
  refine wp_learn 6 h6 ?_
  clear h6 hg
  have ha2 : NatV (fun k => S k ∧ k < w.heap.size) 3 .i64 w2 va a := ha0.keep (k2.mono fun i hi => hi.2)
  have hda := dg_lt a i
  repeat (first | refine wp_seq_region ?_ | refine wp_seq_seq ?_ | refine wp_region ?_ | refine r_move (by conv => (lhs; whnf)) ?_ | refine r_nil ?_ | refine q_then ?_ | refine r_len (by conv => (lhs; whnf)) (by assumption) ?_ | refine r_lss rfl rfl ?_)
  try refine wp_seq_cond ?_
  refine wp_cond_dec rfl ?_ ?_ <;> intro hc
  · repeat (first | refine wp_seq_region ?_ | refine wp_seq_bseq ?_ | refine wp_region ?_ | refine r_assign (by conv => (lhs; whnf)) ?_ | refine r_nil ?_ | refine q_then ?_ | refine wp_block_seq ?_ | refine wp_skip ?_)
    obtain ⟨x, hx⟩ : ∃ x, x = (dg a).getD i 0 := ⟨_, rfl⟩
    first | refine wp_seq_block ?_ | refine wp_thenB ?_ | refine wp_thenBB ?_ | skip
    refine wp_mid [(7, 9), (22, 63)] (fun ρ w' => ∃ (o' : List Nat), o'.length = o.length ∧ Digs o' ∧ nval o' = nval o + 1000000000 ^ i * (x * b) ∧
        (∀ j, i + 1 + (dg b).length ≤ j → o'.getD j 0 = 0) ∧ Blk w' g 3 (o'.map fun d : Nat => .int .i64 d) ∧ Keeps (fun k => k < w.heap.size) w w') ?_ ?_
    · try refine wp_seq_block ?_
      refine wp_for [(7, 9), (22, 63)] (fun k ρ w' => ∃ (j : Nat) (o' : List Nat) (c : Nat), k = (dg b).length + 2 - j ∧ ρ 8 = .int .i64 j ∧ ρ 7 = .int .i64 c ∧ c < 1000000000 ∧ (j ≤ (dg b).length ∨ (j = (dg b).length + 1 ∧ c = 0)) ∧ o'.length = o.length ∧ Digs o' ∧ nval o' + 1000000000 ^ (i + j) * c = nval o + 1000000000 ^ i * (x * nval ((dg b).take j)) ∧
        (∀ p, i + max j (dg b).length ≤ p → o'.getD p 0 = 0) ∧ Blk w' g 3 (o'.map fun d : Nat => .int .i64 d) ∧ Keeps (fun k => k < w.heap.size) w w') ((dg b).length + 2)
        ⟨0, o, 0, by omega, rfl, rfl, by omega, by omega, rfl, hod, by simp [nval], fun p hp => hz p (by omega), hg2, k2⟩ ?_
      rintro k2' u2 w3 ⟨j, o', c, hkj, h8, h7, hc9, hjj, hol', hod', hv', hz', hg3, k3⟩
      refine wp_learn 8 h8 (wp_learn 7 h7 ?_)
      clear h8 h7
      have ha3 : NatV (fun k => S k ∧ k < w.heap.size) 3 .i64 w3 va a := ha0.keep (k3.mono fun i hi => hi.2)
      have hb3 : NatV (fun k => S k ∧ k < w.heap.size) 3 .i64 w3 vb b := hb0.keep (k3.mono fun i hi => hi.2)
      repeat (first | refine wp_seq_region ?_ | refine wp_seq_seq ?_ | refine wp_region ?_ | refine r_move (by conv => (lhs; whnf)) ?_ | refine r_len (by conv => (lhs; whnf)) (by assumption) ?_ | refine r_lss rfl rfl ?_)
      refine r_mid [(26, 29)] (fun ρ w' => ρ 29 = .bool (tst (j < (dg b).length ∨ 0 < c)) ∧ w' = w3) ?_ ?_
      · refine r_guard_split rfl rfl ?_ ?_ <;> intro hlt
        · repeat (first | refine r_nil ?_ | refine q_then ?_ | refine r_guard_skip rfl rfl rfl ?_ | refine r_pick_true rfl (by conv => (lhs; whnf)) ?_)
          exact ⟨by (repeat (first | refine agree_upd rfl ?_ | exact agree_over | refine agree_sub rfl ?_ | exact agree_refl | refine agree_base rfl ?_ | refine agree_base' rfl ?_)), by rw [tst_true (Or.inl (by omega))]; rfl, rfl⟩
        · repeat (first | refine r_move (by conv => (lhs; whnf)) ?_ | refine r_nil ?_ | refine q_then ?_ | refine r_guard_run rfl rfl ?_ | refine r_pick_false rfl (by conv => (lhs; whnf)) ?_ | refine r_gtr rfl rfl ?_)
          refine ⟨by (repeat (first | refine agree_upd rfl ?_ | exact agree_over | refine agree_sub rfl ?_ | exact agree_refl | refine agree_base rfl ?_ | refine agree_base' rfl ?_)), congrArg Value.bool (tst_congr ?_), rfl⟩
          omega
      rintro u3 w4 ⟨h29, rfl⟩
      refine wp_learn 29 h29 ?_
      clear h29
      skip
      try refine wp_seq_cond ?_
      refine wp_cond_dec rfl ?_ ?_ <;> intro hjc
      · have hij : i + j < o'.length := by omega
        have hdo := hod'.getD (i + j)
        have hdb := dg_lt b j
        repeat (first | refine r_index_own (i := i + j) rfl rfl (by omega) (by omega) ?_ | refine r_load_digs rfl hg3 hij ?_ | refine wp_seq_region ?_ | refine wp_seq_seq ?_ | refine wp_seq_bseq ?_ | refine wp_region ?_ | refine r_move (by conv => (lhs; whnf)) ?_ | refine r_assign (by conv => (lhs; whnf)) ?_ | refine r_nil ?_ | refine q_then ?_ | refine wp_block_seq ?_ | refine wp_skip ?_ | refine r_len (by conv => (lhs; whnf)) (by assumption) ?_ | refine r_lss rfl rfl ?_ | refine r_addI rfl rfl (by omega) (by omega) ?_)
        first | refine wp_seq_cond ?_ | refine wp_thenB ?_ | refine wp_thenBB ?_ | skip
        refine wp_join [(9, 9), (44, 54)] (fun ρ w' => Ext w4 w' ∧ ρ 9 = .int .i64 ((o'.getD (i + j) 0 + c + x * (dg b).getD j 0 : Nat) : Int)) rfl ?_ ?_ ?_
        · intro hjb
          have hmul : x * (dg b).getD j 0 ≤ 999999999 * 999999999 := Nat.mul_le_mul (by omega) (by omega)
          have hmi : (((dg a).getD i 0 : Nat) : Int) * (((dg b).getD j 0 : Nat) : Int) = ((x * (dg b).getD j 0 : Nat) : Int) := by rw [hx]; exact (Int.natCast_mul ..).symm
          try refine wp_seq_region ?_
          refine wp_drawn 10 (by kernel_rfl) (by kernel_rfl) ?_
          apply ob_step
          · intro x w1 k1 hd
            refine r_move (by conv => (lhs; whnf)) ?_
            refine r_nil ?_
            exact ob_eq
          apply ob_step
          · intro x w1 k1 hd
            refine r_move (by conv => (lhs; whnf)) ?_
            refine r_nil ?_
            exact ob_eq
          apply ob_step
          · intro x w1 k1 hd
            refine r_move (by conv => (lhs; whnf)) ?_
            refine r_nil ?_
            exact ob_eq
          apply ob_step
          · intro x w1 k1 hd
            refine r_index1 (i := i) (by conv => (lhs; whnf)) rfl rfl (ha3.to k1) (by omega) ?_
            refine r_nil ?_
            exact ob_eq
          apply ob_step
          · intro x w1 k1 hd
            refine r_load_dig rfl (ha3.to k1) (by omega) ?_
            refine r_nil ?_
            exact ob_eq
          apply ob_step
          · intro x w1 k1 hd
            refine r_move (by conv => (lhs; whnf)) ?_
            refine r_nil ?_
            exact ob_eq
          apply ob_step
          · intro x w1 k1 hd
            refine r_move (by conv => (lhs; whnf)) ?_
            refine r_nil ?_
            exact ob_eq
          apply ob_step
          · intro x w1 k1 hd
            refine r_index1 (i := j) (by conv => (lhs; whnf)) rfl rfl (hb3.to k1) (by omega) ?_
            refine r_nil ?_
            exact ob_eq
          apply ob_step
          · intro x w1 k1 hd
            refine r_load_dig rfl (hb3.to k1) (by omega) ?_
            refine r_nil ?_
            exact ob_eq
          apply ob_step
          · intro x w1 k1 hd
            refine r_mulI rfl rfl (by rw [hmi]; omega) (by rw [hmi]; omega) ?_
            refine r_nil ?_
            exact ob_eq
          refine ob_nil (ob_end ?_)
          intro z w5 k5 _
          repeat (first | refine r_addI rfl rfl (by rw [hmi]; omega) (by rw [hmi]; omega) ?_ | refine r_assign (by conv => (lhs; whnf)) ?_ | refine r_nil ?_ | refine q_then ?_)
          exact ⟨by (repeat (first | refine agree_upd rfl ?_ | exact agree_over | refine agree_sub rfl ?_ | exact agree_refl | refine agree_base rfl ?_ | refine agree_base' rfl ?_)), k5, congrArg (Value.int .i64) (by rw [hmi, Int.natCast_add, Int.natCast_add])⟩
        · intro hjb
          repeat (first | refine q_then ?_ | refine wp_skip ?_)
          refine ⟨by (repeat (first | refine agree_upd rfl ?_ | exact agree_over | refine agree_sub rfl ?_ | exact agree_refl | refine agree_base rfl ?_ | refine agree_base' rfl ?_)), .refl, congrArg (Value.int .i64) ?_⟩
          rw [getD_out (l := dg b) (by omega)]
          omega
        rintro u5 w5 ⟨k5, h9⟩
        refine wp_learn 9 h9 ?_
        clear h9
        have hg5 := hg3.to k5
        obtain ⟨y, hy⟩ : ∃ y, y = (dg b).getD j 0 := ⟨_, rfl⟩
        obtain ⟨t, ht⟩ : ∃ t, t = o'.getD (i + j) 0 := ⟨_, rfl⟩
        rw [← hy, ← ht]
        rw [← hy] at hdb
        rw [← ht] at hdo
        have hmul : x * y ≤ 999999999 * 999999999 := Nat.mul_le_mul (by omega) (by omega)
        have hstep := mul_step (m := x * y) hij hv'
        rw [← ht] at hstep
        obtain ⟨s, hs⟩ : ∃ s, s = t + c + x * y := ⟨_, rfl⟩
        rw [← hs]
        have hs9 : s < 1000000000 * 1000000000 := by omega
        have hj1 : (dg b).length ≤ j → s = c := fun h => by
          have h0 := hz' (i + j) (by omega)
          rw [← ht] at h0
          rw [hs, hy, getD_out (l := dg b) h, h0]
          omega
        repeat (first | refine r_index_own (i := i + j) rfl rfl (by omega) (by omega) ?_ | refine wp_seq_region ?_ | refine wp_region ?_ | refine r_move (by conv => (lhs; whnf)) ?_ | refine r_addI rfl rfl (by omega) (by omega) ?_ | refine r_remP rfl rfl (by omega) (by omega) ?_)
        refine r_store_digs (c := s % 1000000000) rfl rfl rfl hg5 hij ?_
        intro w6 k6 hg6
        repeat (first | refine wp_region ?_ | refine r_move (by conv => (lhs; whnf)) ?_ | refine r_assign (by conv => (lhs; whnf)) ?_ | refine r_nil ?_ | refine q_then ?_ | refine r_addI rfl rfl (by omega) (by omega) ?_ | refine r_quoI rfl rfl (by omega) (by omega) (by omega) ?_)
        refine ⟨by (repeat (first | refine agree_upd rfl ?_ | exact agree_over | refine agree_sub rfl ?_ | exact agree_refl | refine agree_base rfl ?_ | refine agree_base' rfl ?_)), (dg b).length + 2 - (j + 1), by omega, j + 1, o'.set (i + j) (s % 1000000000), s / 1000000000, rfl, rfl, rfl, by omega, ?_, by rw [List.length_set]; exact hol', hod'.set (by omega) _, ?_, fun p hp => ?_, hg6, ?_⟩
        · rcases Nat.lt_or_ge j (dg b).length with h | h
          · exact .inl (by omega)
          · have := hj1 h; omega
        · have e : x * y + t + c = s := by rw [hs]; omega
          rw [e] at hstep
          rw [← Nat.add_assoc, hstep, nval_take_step, ← hy, Nat.mul_add, Nat.mul_add, Nat.add_assoc]
          congr 2
          rw [Nat.pow_add, Nat.mul_assoc]
          congr 1
          rw [← Nat.mul_assoc, ← Nat.mul_assoc, Nat.mul_comm x]
        · rw [getD_set_other (by omega)]
          exact hz' p (by omega)
        · exact (k3.trans (.of k5)).trans (k6.mono fun i hi => by omega)
      · repeat (first | refine q_then ?_ | refine wp_exit ?_ | refine q_then_exit ?_ | refine q_block_hit rfl ?_)
        refine ⟨by (repeat (first | refine agree_upd rfl ?_ | exact agree_over | refine agree_sub rfl ?_ | exact agree_refl | refine agree_base rfl ?_ | refine agree_base' rfl ?_)), o', hol', hod', ?_, fun p hp => hz' p (by omega), hg3, k3⟩
        have hcy0 : c = 0 := by omega
        subst hcy0
        rw [nval_take_all (by omega), nval_dg] at hv'
        omega
    rintro u3 w4 ⟨o', hol', hod', hv', hz', hg4, k4⟩
    repeat (first | refine wp_region ?_ | refine r_move (by conv => (lhs; whnf)) ?_ | refine r_assign (by conv => (lhs; whnf)) ?_ | refine r_nil ?_ | refine q_then ?_ | refine r_addI rfl rfl (by omega) (by omega) ?_)
    refine ⟨by (repeat (first | refine agree_upd rfl ?_ | exact agree_over | refine agree_sub rfl ?_ | exact agree_refl | refine agree_base rfl ?_ | refine agree_base' rfl ?_)), k - 1, by omega, i + 1, o', by omega, rfl, by omega, hod', ?_, fun p hp => hz' p (by omega), hg4, k4⟩
    rw [hv', hv, nval_take_step, ← hx, Nat.add_mul, Nat.mul_assoc]
  · repeat (first | refine wp_seq_region ?_ | refine wp_region ?_ | refine r_move (by conv => (lhs; whnf)) ?_ | refine wp_exit ?_)
    refine r_call (rtrim_c (S := S) (v := .slice (some ⟨g, 0, none⟩) ((dg a).length + (dg b).length) ((dg a).length + (dg b).length)) (l := o) ?_ hod) rfl ?_
    · have h4 := Row.of_blk (S := S) (s := 1) (n := o.length) (cap := o.length) hg2 (hS g (by omega)) (Nat.le_refl _) (by unfold maxLen; omega) (by simp)
      rw [Nat.mul_one, List.take_of_length_le (by simp)] at h4
      rw [← hol]
      exact h4
    · rintro v4 w4 ⟨rfl, h4⟩
      repeat (first | refine r_assign (by conv => (lhs; whnf)) ?_ | refine r_nil ?_ | refine q_then ?_ | refine wp_ret ?_)
      refine end_tmp rfl (by conv => (lhs; whnf)) ⟨?_, ?_⟩
      · exact Keeps.later .refl k2 fun i hi _ => hi
      · rw [hv, nval_take_all (by omega), nval_dg] at h4
        exact h4
end Go.Proofs.YtpmnjjmngogkkaaGreatDoor
