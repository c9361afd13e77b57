import Derived.Test.YtpmnjjmngogkkaaGreatDoorNat
import Derived.Test.YtpmnjjmngogkkaaGreatDoorMag
set_option linter.unusedVariables false
namespace Go.Proofs.YtpmnjjmngogkkaaGreatDoor
open Go Go.RowKit

theorem pow_le_int {a b : Nat} (h : a ≤ b) : (1000000000 : Int) ^ a ≤ 1000000000 ^ b := by
  have h1 : ((1000000000 ^ a : Nat) : Int) ≤ ((1000000000 ^ b : Nat) : Int) := Int.ofNat_le.2 (Nat.pow_le_pow_right (by omega) h)
  rwa [Int.natCast_pow, Int.natCast_pow] at h1
theorem tdiv_bd {x : Int} (h0 : -9000000000000000000 ≤ x) (h1 : x ≤ 9000000000000000000) : -9000000000000000000 ≤ x.tdiv 1000000000 ∧ x.tdiv 1000000000 ≤ 9000000000000000000 := by
  by_cases h : x.tmod 1000000000 < 0
  · have := floor_neg h; omega
  · have := floor_pos h; omega
/-- How carry and place go on. -/
def CarI (n : Nat) (k i : Nat) (c : Int) : Prop :=
  -2100000000 ≤ c ∧ c ≤ 4400000000 ∧ ((i < n ∧ (n - i) + 9223372036854775808 ≤ k) ∨ (n ≤ i ∧ i ≤ n + 2 ∧ c < 1000000000 ^ (n + 2 - i) ∧ c.toNat ≤ k))
theorem car_step {n k i : Nat} {c x : Int} (h : CarI n k i c) (hx : -2000000000 ≤ x ∧ x ≤ 4300000000000000000) (hx0 : n ≤ i → x = 0) (hgo : i < n ∨ c ≠ 0) (h0 : n ≤ i → 0 ≤ c) :
    ∃ k', k' < k ∧ CarI n k' (i + 1) ((c + x) / 1000000000) := by
  obtain ⟨h1, h2, h3 | ⟨h3, h4, h5, h6⟩⟩ := h
  · by_cases h : i + 1 < n
    · exact ⟨(n - (i + 1)) + 9223372036854775808, by omega, by omega, by omega, .inl ⟨h, Nat.le_refl _⟩⟩
    · refine ⟨((c + x) / 1000000000).toNat, by omega, by omega, by omega, .inr ⟨by omega, by omega, ?_, Nat.le_refl _⟩⟩
      have e : n + 2 - (i + 1) = 2 := by omega
      rw [e]
      omega
  · have hc := h0 h3
    rw [hx0 h3, Int.add_zero]
    have hc1 : 1 ≤ c := by omega
    have e : n + 2 - i ≠ 0 := by
      intro e
      rw [e] at h5
      simp at h5
      omega
    refine ⟨(c / 1000000000).toNat, by omega, by omega, by omega, .inr ⟨by omega, by omega, ?_, Nat.le_refl _⟩⟩
    obtain ⟨m, hm⟩ : ∃ m, n + 2 - i = m + 1 := ⟨n + 2 - i - 1, by omega⟩
    rw [hm, Int.pow_succ] at h5
    have e2 : n + 2 - (i + 1) = m := by omega
    rw [e2]
    omega
theorem car_low {v : Nat} {l : List Nat} {c : Int} {tot : Nat} (hd : Digs l) (h : (nval l : Int) + 1000000000 ^ l.length * c = (tot : Int)) : 0 ≤ c := by
  have h1 := nval_lt hd
  have h2 : ((nval l : Nat) : Int) < ((1000000000 ^ l.length : Nat) : Int) := Int.ofNat_lt.2 h1
  rw [Int.natCast_pow] at h2
  rcases Int.lt_or_le c 0 with hc | hc
  · have h3 : (1000000000 : Int) ^ l.length * c ≤ 1000000000 ^ l.length * (-1) := Int.mul_le_mul_of_nonneg_left (by omega) (Int.le_of_lt (Int.pow_pos (by omega)))
    have h4 : ((1000000000 : Nat) : Int) = 1000000000 := rfl
    rw [h4] at h2
    omega
  · exact hc

theorem carried_c {S : Nat → Prop} {w : World} {n F tot : Nat} [CallI Tryz.prog F] {caps : List Value} {x : Nat → Int} (hS : Up S w) (hn : n ≤ 1099511627776)
    (hx : ∀ i, i < n → -2000000000 ≤ x i ∧ x i ≤ 4300000000000000000) (ht : psum x n = (tot : Int))
    (hF : ∀ i : Nat, i < n → ∀ w', Keeps (fun k => k < w.heap.size) w w' → Gives Tryz.prog F (.int .i64 i :: caps) w' fun v w'' => v = .int .i64 (x i) ∧ Ext w' w'') :
    Gives Tryz.prog 181 [.int .i64 n, .func (.func F) #[] caps.toArray] w fun v' w' => Ext w w' ∧ NatV S 127 .u32 w' v' tot := by
  refine gives_of Tryz.func181 rfl rfl rfl ?_
  repeat (first | refine wp_seq_region ?_ | refine wp_region ?_ | refine r_move (by conv => (lhs; whnf)) ?_ | refine r_assign (by conv => (lhs; whnf)) ?_ | refine r_nil ?_ | refine r_addI rfl rfl (by omega) (by omega) ?_)
  refine r_make (l := 0) (c := n + 1) rfl rfl rfl (by omega) (by omega) (by omega) (by unfold maxLen; omega) ?_
  intro w1 g k1 hb hg
  repeat (first | refine wp_seq_region ?_ | refine wp_seq_seq ?_ | refine wp_region ?_ | refine r_assign (by conv => (lhs; whnf)) ?_ | refine r_nil ?_ | refine q_then ?_)
  try refine wp_seq_block ?_
  refine wp_for [(5, 8), (12, 44)] (fun k ρ w' => ∃ (i : Nat) (c : Int) (l : List Nat) (v : Value), ρ 7 = .int .i64 i ∧ ρ 6 = .int .i64 c ∧ ρ 5 = v ∧ l.length = i ∧ Digs l ∧ (nval l : Int) + 1000000000 ^ i * c = psum x (min i n) ∧
      CarI n k i c ∧ Ext w w' ∧ Own w.heap.size 127 1 w' v i (l.map fun d : Nat => .int .u32 d)) ((n - 0) + 9223372036854775808)
    ⟨0, 0, [], _, rfl, rfl, rfl, rfl, digs_nil, by simp [nval, psum], ?_, k1, own_made hb hg (by unfold maxLen; omega) (by simp [size_madeCells])⟩ ?_
  · by_cases h : 0 < n
    · exact ⟨by omega, by omega, .inl ⟨h, by omega⟩⟩
    · exact ⟨by omega, by omega, .inr ⟨by omega, by omega, Int.pow_pos (by omega), by omega⟩⟩
  · rintro k u w2 ⟨i, c, l, v, h7, h6, h5, hl, hd, hv, hcar, k2, ho⟩
    refine wp_learn 7 h7 (wp_learn 6 h6 (wp_learn 5 h5 ?_))
    clear h7 h6 h5
    have hcb : -2100000000 ≤ c ∧ c ≤ 1000000000000000000 ∧ i ≤ n + 2 := by
      obtain ⟨h1, h2, h | ⟨h3, h4, h5, h6⟩⟩ := hcar
      · omega
      · omega
    subst hl
    refine wp_seq (wp_mid [(12, 18)] (fun ρ w' => w' = w2 ∧ (l.length < n ∨ c ≠ 0)) ?_ ?_)
    · repeat (first | refine wp_seq_region ?_ | refine wp_region ?_ | refine r_move (by conv => (lhs; whnf)) ?_ | refine r_lss rfl rfl ?_)
      refine r_guard_split rfl rfl ?_ ?_ <;> intro hc
      · repeat (first | refine r_nil ?_ | refine q_then ?_ | refine wp_skip ?_ | refine r_guard_skip rfl rfl rfl ?_ | refine r_pick_true rfl (by conv => (lhs; whnf)) ?_ | refine wp_cond_true rfl ?_)
        exact ⟨by (repeat (first | refine agree_upd rfl ?_ | exact agree_over | refine agree_sub rfl ?_ | exact agree_refl)), rfl, .inl (by omega)⟩
      · repeat (first | refine r_move (by conv => (lhs; whnf)) ?_ | refine r_nil ?_ | refine q_then ?_ | refine r_guard_run rfl rfl ?_ | refine r_pick_false rfl (by conv => (lhs; whnf)) ?_ | refine r_neq rfl rfl ?_)
        try refine wp_seq_cond ?_
        refine wp_cond_dec rfl ?_ ?_ <;> intro hc2
        · repeat (first | refine q_then ?_ | refine wp_skip ?_)
          exact ⟨by (repeat (first | refine agree_upd rfl ?_ | exact agree_over | refine agree_sub rfl ?_ | exact agree_refl)), rfl, .inr hc2⟩
        · repeat (first | refine wp_seq_region ?_ | refine wp_region ?_ | refine r_move (by conv => (lhs; whnf)) ?_ | refine wp_exit ?_)
          refine r_call (trim_c (Row.of_own ho hS) hd) rfl ?_
          rintro v' w' ⟨rfl, hv'⟩
          repeat (first | refine r_assign (by conv => (lhs; whnf)) ?_ | refine r_nil ?_ | refine q_then ?_ | refine wp_ret ?_)
          refine end_tmp rfl (by conv => (lhs; whnf)) ⟨k2, ?_⟩
          obtain rfl : c = 0 := by omega
          rw [Nat.min_eq_right (by omega), ht] at hv
          have e : nval l = tot := by omega
          rw [← e]
          exact hv'
    · rintro u2 w3 ⟨rfl, hgo⟩
      obtain ⟨xx, hxx⟩ : ∃ xx : Int, xx = if l.length < n then x l.length else 0 := ⟨_, rfl⟩
      have hxb : -2000000000 ≤ xx ∧ xx ≤ 4300000000000000000 := by
        rw [hxx]
        split
        · exact hx _ ‹_›
        · omega
      repeat (first | refine wp_seq_region ?_ | refine wp_seq_seq ?_ | refine wp_seq_bseq ?_ | refine wp_region ?_ | refine r_move (by conv => (lhs; whnf)) ?_ | refine r_assign (by conv => (lhs; whnf)) ?_ | refine r_nil ?_ | refine q_then ?_ | refine wp_block_seq ?_ | refine r_lss rfl rfl ?_)
      first | refine wp_seq_cond ?_ | refine wp_thenB ?_ | refine wp_thenBB ?_ | skip
      refine wp_join [(8, 8), (25, 29)] (fun ρ w' => ρ 8 = .int .i64 (c + xx) ∧ Ext w3 w') rfl ?_ ?_ ?_
      · intro hi
        repeat (first | refine wp_region ?_ | refine r_move (by conv => (lhs; whnf)) ?_)
        refine r_callv (cap := caps) (first := []) rfl (hF l.length (by omega) w3 (Keeps.mono k2 fun _ _ => trivial)) rfl ?_
        rintro v4 w4 ⟨rfl, k4⟩
        have e : x l.length = xx := by rw [hxx, if_pos (by omega)]
        rw [e]
        repeat (first | refine r_assign (by conv => (lhs; whnf)) ?_ | refine r_nil ?_ | refine q_then ?_ | refine r_addI rfl rfl (by omega) (by omega) ?_)
        exact ⟨by (repeat (first | refine agree_upd rfl ?_ | exact agree_over | refine agree_sub rfl ?_ | exact agree_refl)), rfl, k4⟩
      · intro hi
        repeat (first | refine q_then ?_ | refine wp_skip ?_)
        exact ⟨by (repeat (first | refine agree_upd rfl ?_ | exact agree_over | refine agree_sub rfl ?_ | exact agree_refl)), congrArg (Value.int .i64) (by rw [hxx, if_neg (by omega)]; omega), .refl⟩
      · rintro u4 w4 ⟨h8, k4⟩
        refine wp_learn 8 h8 ?_
        clear h8
        have hc2 : c ≤ 4400000000 := hcar.2.1
        have hq := tdiv_bd (x := c + xx) (by omega) (by omega)
        repeat (first | refine r_quo (c := (c + xx).tdiv 1000000000) rfl rfl (by omega) (wrap_i64 (by omega) (by omega)) ?_ | refine r_rem rfl rfl (by omega) ?_ | refine wp_seq_region ?_ | refine wp_seq_seq ?_ | refine wp_region ?_ | refine r_move (by conv => (lhs; whnf)) ?_ | refine r_assign (by conv => (lhs; whnf)) ?_ | refine r_nil ?_ | refine q_then ?_ | refine r_lss rfl rfl ?_)
        first | refine wp_seq_cond ?_ | refine wp_thenB ?_ | refine wp_thenBB ?_ | skip
        refine wp_join [(6, 6), (8, 8), (36, 39)] (fun ρ w' => ρ 8 = .int .i64 ((c + xx) % 1000000000) ∧ ρ 6 = .int .i64 ((c + xx) / 1000000000) ∧ w' = w4) rfl ?_ ?_ ?_
        · intro hneg
          have hf := floor_neg hneg
          repeat (first | refine wp_seq_region ?_ | refine wp_region ?_ | refine r_move (by conv => (lhs; whnf)) ?_ | refine r_assign (by conv => (lhs; whnf)) ?_ | refine r_nil ?_ | refine q_then ?_ | refine r_addI rfl rfl (by omega) (by omega) ?_ | refine r_subI rfl rfl (by omega) (by omega) ?_)
          exact ⟨by (repeat (first | refine agree_upd rfl ?_ | exact agree_over | refine agree_sub rfl ?_ | exact agree_refl)), congrArg (Value.int .i64) hf.1, congrArg (Value.int .i64) hf.2, rfl⟩
        · intro hneg
          have hf := floor_pos hneg
          repeat (first | refine q_then ?_ | refine wp_skip ?_)
          exact ⟨by (repeat (first | refine agree_upd rfl ?_ | exact agree_over | refine agree_sub rfl ?_ | exact agree_refl)), congrArg (Value.int .i64) hf.1, congrArg (Value.int .i64) hf.2, rfl⟩
        · rintro u5 w5 ⟨h8, h6, rfl⟩
          refine wp_learn 8 h8 (wp_learn 6 h6 ?_)
          clear h8 h6
          repeat (first | refine wp_region ?_ | refine r_move (by conv => (lhs; whnf)) ?_ | refine r_conv rfl (wrap_u32 (by omega) (by omega)) ?_)
          refine r_lit1 (by conv => (lhs; whnf)) rfl ?_
          intro w6 g6 k6 hb6 hg6
          have hsz := k2.size
          have hsz4 := k4.size
          have hsz6 := k6.size
          refine r_append1 (by conv => (lhs; whnf)) (own_to (own_to ho k4) k6) rfl hb6 (by omega) rfl (by simp [Value.oneCell']) (by unfold maxLen; omega) (by omega) (by omega) ?_
          intro v7 w7 ho7 k7
          repeat (first | refine wp_region ?_ | refine r_move (by conv => (lhs; whnf)) ?_ | refine r_assign (by conv => (lhs; whnf)) ?_ | refine r_nil ?_ | refine q_then ?_ | refine r_addI rfl rfl (by omega) (by omega) ?_)
          have hcar2 := car_step hcar hxb (fun h => by rw [hxx, if_neg (by omega)]) hgo (fun h => car_low (v := 0) hd (by rw [hv, Nat.min_eq_right h, ht]))
          obtain ⟨k', hk', hcar'⟩ := hcar2
          refine ⟨by (repeat (first | refine agree_upd rfl ?_ | exact agree_over | refine agree_sub rfl ?_ | exact agree_refl)), k', hk', l.length + 1, (c + xx) / 1000000000, l ++ [((c + xx) % 1000000000).toNat], v7, rfl, rfl, rfl, by simp, ?_, ?_, hcar', ?_, ?_⟩
          · refine hd.append fun d hdm => ?_
            obtain rfl : d = _ := by simpa using hdm
            omega
          · have hs := carry_step (x := xx) hv
            rw [nval_append, nval, nval, Nat.mul_zero, Nat.add_zero, hs]
            by_cases hi : l.length < n
            · rw [Nat.min_eq_left (by omega), Nat.min_eq_left (by omega), psum, hxx, if_pos hi]
            · rw [Nat.min_eq_right (by omega), Nat.min_eq_right (by omega), hxx, if_neg hi]
              omega
          · exact Keeps.later (k2.trans (k4.trans k6)) k7 fun i hi _ e => by have := (ho.lt i e.symm).1; omega
          · have e : (((c + xx) % 1000000000).toNat : Int) = (c + xx) % 1000000000 := Int.toNat_of_nonneg (by omega)
            simpa [e] using ho7
end Go.Proofs.YtpmnjjmngogkkaaGreatDoor
