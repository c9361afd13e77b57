/- The reference's integers as strings. -/
import Derived.Test.YtpmnjjmngogkkaaGreatDoorRef5
import Derived.Laws.IdiomStrings
set_option linter.unusedVariables false
set_option linter.unusedSimpArgs false
namespace Go.Proofs.YtpmnjjmngogkkaaGreatDoor
open Go Go.RowKit

theorem own_block {base : Nat} {T : TypeId} {w : World} {v : Value} {m : Nat} {xs : List Value} (h : Own base T 1 w v m xs) (hm : 0 < m) :
    ∃ g cap cs, v = .slice (some ⟨g, 0, none⟩) m cap ∧ base ≤ g ∧ Blk w g T cs ∧ cs.take m = xs ∧ m ≤ cs.length ∧ m ≤ cap ∧ cap ≤ maxLen ∧ cap = cs.length := by
  rcases h.2 with ⟨h1, h2⟩ | ⟨g, cap, cur, rfl, hb, hg, h1, h2, h3, h4⟩
  · omega
  · refine ⟨g, cap, cur.toList, rfl, hb, ?_, by simpa using h4, ?_, h1, h2, ?_⟩
    · unfold Blk
      rw [hg]
    · simp at h3 ⊢; omega
    · simp at h3 ⊢; omega
section rules
variable {P : Program} {n : Nat} {Q : Post} {ρ : Fr} {w : World} {all rest : List Oper} {d : Tmp} {ty : TypeId} {pos : String} {aft : Array Edge}
/-- s[:h] of an own slice that is not empty. -/
theorem r_slice_own {t T : TypeId} [st : SlT P t T] {b : Nat} {z : Value} {agg : Bool} [ti : TyI P T 1 b z agg] {x hi : Operand} {base : Nat} {v : Value} {m : Nat} {xs : List Value} {k : Nat} {i : Int}
    (hv : ev ρ x = v) (ho : Own base T 1 w v m xs) (hh : ev ρ hi = .int .i64 i) (hik : i = (k : Int)) (hk : k ≤ m) (hm : 0 < m)
    (h : ∀ v', Own base T 1 w v' k (xs.take k) → WpR P n all Q rest (upd ρ d v') w) : WpR P n all Q (⟨some d, .slice t x none (some hi) none, ty, pos, aft, none⟩ :: rest) ρ w := by
  subst hik
  obtain ⟨g, cap, cs, rfl, hb, hg, h1, h2, h3, h4, h5⟩ := own_block ho hm
  refine r_val (v := .slice (some ⟨g, 0, none⟩) k cap) rfl rfl ?_ (h _ ⟨by rw [← h1]; simp; omega, .inr ⟨g, cap, cs.toArray, rfl, hb, hg, by omega, h4, by simp; omega, ?_⟩⟩)
  · have hk2 : k ≤ cap := by omega
    simp [execOp, hv, hh, Instr.sliceAt, Instr.slice, run_underlying st.und, Instr.sliceBounds, Instr.sliceBound, asIntOf, hk2, ti.runSize w, Addr.add, show ¬ cap = 0 by omega]
  · rw [← h1, List.take_take]
    simp
    omega
end rules
theorem low_take {m v j : Nat} (h : j ≤ m) : (low m v).take j = low j v := by
  obtain ⟨k, rfl⟩ : ∃ k, m = j + k := ⟨m - j, by omega⟩
  rw [low_append, List.take_left' (low_length j v)]
abbrev byt (l : List UInt8) : List Value := Lib.byteCells l
theorem byt_append (a b : List UInt8) : byt (a ++ b) = byt a ++ byt b := by simp [Lib.byteCells]
theorem byt_length (a : List UInt8) : (byt a).length = a.length := by simp [Lib.byteCells]
theorem byt_take (a : List UInt8) (k : Nat) : (byt a).take k = byt (a.take k) := by simp [Lib.byteCells, List.map_take]
theorem byt_digit {x : Nat} (h : x < 10) : Value.int .u8 (48 + (x : Int)) = .int .u8 ((UInt8.ofNat (48 + x)).toNat : Int) := by
  congr 1
  rw [UInt8.toNat_ofNat']
  omega
theorem itoa_rev (z : Int) : (Lib.itoa z).reverse = low (Lib.nDigits z.natAbs) z.natAbs ++ (if z < 0 then [45] else []) := by
  unfold Lib.itoa
  split
  · rw [← dec_low]; simp
  · rw [← dec_low, show z.natAbs = z.toNat by omega]; simp

set_option maxHeartbeats 2000000 in
theorem zstr_c {S : Nat → Prop} {w : World} {v : Value} {z : Int} (h : ZV S w v z) (hl : zl z ≤ 1099511627000) :
    Gives Tryz.prog 17 [v] w fun v' w' => v' = strV (Lib.itoa z) ∧ Ext w w' := by
  obtain ⟨m, rfl, hm⟩ := h
  obtain ⟨n, hn⟩ : ∃ n, n = z.natAbs := ⟨_, rfl⟩
  rw [← hn] at hm
  have hln : (dg n).length ≤ 1099511627000 := by rw [hn]; exact hl
  have hdl : (dg n).length = dl n := rfl
  refine gives_of Tryz.func17 rfl rfl rfl ?_
  repeat (first | refine wp_seq_region ?_ | refine wp_region ?_)
  refine r_box (cs := [.bool (tst (z < 0)), m]) (by conv => (lhs; whnf)) rfl ?_
  intro w1 g k1 hg hgs
  have hm1 := hm.to k1
  have hgl := hg.lt
  clear hm
  repeat (first | refine r_load_blk rfl hg rfl ?_ | refine wp_seq_region ?_ | refine wp_seq_seq ?_ | refine wp_region ?_ | refine r_assign (by conv => (lhs; whnf)) ?_ | refine r_nil ?_ | refine q_then ?_ | refine r_len (by conv => (lhs; whnf)) (by assumption) ?_ | refine r_eql rfl rfl ?_ | refine r_field rfl ?_)
  try refine wp_seq_cond ?_
  refine wp_cond_dec rfl ?_ ?_ <;> intro hc
  · repeat (first | refine wp_seq_region ?_ | refine wp_region ?_ | refine r_assign (by conv => (lhs; whnf)) ?_ | refine r_nil ?_ | refine q_then ?_ | refine wp_ret ?_ | refine q_then_ret ?_)
    refine end_tmp rfl (by conv => (lhs; whnf)) ⟨?_, k1⟩
    have h0 : n = 0 := dl_eq_zero.1 (by omega)
    have hz : z = 0 := by omega
    subst hz
    unfold Lib.itoa
    rw [if_neg (by decide), show (0 : Int).toNat = 0 from rfl, Lib.decDigits_one (by decide)]
    rfl
  · have hn0 : 0 < n := Nat.pos_of_ne_zero fun e => hc (by have := dl_eq_zero.2 e; omega)
    have hD := nDigits_dl hn0
    repeat (first | refine wp_seq_region ?_ | refine wp_seq_seq ?_ | refine wp_region ?_ | refine r_assign (by conv => (lhs; whnf)) ?_ | refine r_nil ?_ | refine q_then ?_ | refine wp_skip ?_)
    try refine wp_seq_block ?_
    refine wp_for [(3, 6), (14, 38)] (fun k ρ w' => ∃ (i : Nat) (v : Value), k + i = (dg n).length ∧ ρ 4 = .int .i64 (i : Int) ∧ ρ 3 = v ∧ Own w1.heap.size 5 1 w' v (9 * i) (byt (low (9 * i) n)) ∧ Ext w1 w') (dg n).length
      ⟨0, _, by omega, rfl, rfl, own_nil, .refl⟩ ?_
    · rintro k u w2 ⟨i, v, hki, h4, h3, ho, k2⟩
      refine wp_learn 4 h4 (wp_learn 3 h3 ?_)
      clear h4 h3
      have hg2 := hg.to k2
      have hm2 := hm1.to k2
      have hdd := dg_lt n i
      repeat (first | refine r_load_blk rfl hg2 rfl ?_ | refine wp_seq_region ?_ | refine wp_seq_seq ?_ | refine wp_region ?_ | refine r_move (by conv => (lhs; whnf)) ?_ | refine r_nil ?_ | refine q_then ?_ | refine r_len (by conv => (lhs; whnf)) (by assumption) ?_ | refine r_lss rfl rfl ?_ | refine r_field rfl ?_)
      try refine wp_seq_cond ?_
      refine wp_cond_dec rfl ?_ ?_ <;> intro hlt
      · repeat (first | refine r_load_blk rfl hg2 rfl ?_ | refine r_index1 (i := i) (by conv => (lhs; whnf)) rfl rfl hm2 (by omega) ?_ | refine r_load_dig rfl hm2 (by omega) ?_ | refine wp_seq_region ?_ | refine wp_seq_bseq ?_ | refine wp_region ?_ | refine r_move (by conv => (lhs; whnf)) ?_ | refine r_assign (by conv => (lhs; whnf)) ?_ | refine r_nil ?_ | refine q_then ?_ | refine wp_block_seq ?_ | refine wp_skip ?_ | refine r_field rfl ?_)
        obtain ⟨d, hd⟩ : ∃ d, d = (dg n).getD i 0 := ⟨_, rfl⟩
        rw [← hd] at hdd ⊢
        try refine wp_seq_block ?_
        refine wp_for [(3, 3), (5, 6), (26, 38)] (fun k ρ w' => ∃ (j : Nat) (v : Value), k + j = 9 ∧ ρ 6 = .int .i64 (j : Int) ∧ ρ 5 = .int .i64 ((d / 10 ^ j : Nat) : Int) ∧ ρ 3 = v ∧ Own w1.heap.size 5 1 w' v (9 * i + j) (byt (low (9 * i) n ++ low j d)) ∧ Ext w1 w') 9
          ⟨0, v, by omega, rfl, by simp; rfl, rfl, by simpa [low] using ho, k2⟩ ?_
        rintro k' u2 w3 ⟨j, v3, hkj, h6, h5, h3, ho3, k3⟩
        refine wp_learn 6 h6 (wp_learn 5 h5 (wp_learn 3 h3 ?_))
        clear h6 h5 h3
        have hdj : d / 10 ^ j ≤ d := Nat.div_le_self ..
        have hdj2 : d / 10 ^ j / 10 = d / 10 ^ (j + 1) := by rw [Nat.div_div_eq_div_mul, Nat.pow_succ]
        have hls := low_succ j d
        obtain ⟨y, hy⟩ : ∃ y, y = d / 10 ^ j := ⟨_, rfl⟩
        rw [← hy] at hdj hdj2 hls ⊢
        repeat (first | refine wp_seq_region ?_ | refine wp_seq_seq ?_ | refine wp_region ?_ | refine r_move (by conv => (lhs; whnf)) ?_ | refine r_nil ?_ | refine q_then ?_ | refine r_lss rfl rfl ?_)
        try refine wp_seq_cond ?_
        refine wp_cond_dec rfl ?_ ?_ <;> intro hj9
        · repeat (first | refine wp_seq_region ?_ | refine wp_seq_bseq ?_ | refine wp_region ?_ | refine r_move (by conv => (lhs; whnf)) ?_ | refine wp_block_seq ?_ | refine wp_skip ?_ | refine r_addI rfl rfl (by omega) (by omega) ?_ | refine r_remP rfl rfl (by omega) (by omega) ?_)
          refine r_conv rfl (wrap_u8 (by omega) (by omega)) ?_
          have hb : Value.int .u8 (48 + (y : Int) % 10) = .int .u8 ((UInt8.ofNat (48 + y % 10)).toNat : Int) := byt_digit (x := y % 10) (by omega)
          refine r_lit1 rfl rfl ?_
          intro w4 g4 k4 hg4 hgs4
          rw [hb] at hg4
          refine r_append1 (by conv => (lhs; whnf)) (own_to ho3 k4) rfl hg4 (by omega) rfl (fun u hu => by rw [List.mem_singleton.1 hu]; rfl) (by unfold maxLen; omega) (by omega) (by have := k3.size; have := k4.size; omega) ?_
          intro v5 w5 ho5 k5
          repeat (first | refine wp_region ?_ | refine r_move (by conv => (lhs; whnf)) ?_ | refine r_assign (by conv => (lhs; whnf)) ?_ | refine r_nil ?_ | refine q_then ?_ | refine r_addI rfl rfl (by omega) (by omega) ?_ | refine r_quoI rfl rfl (by omega) (by omega) (by omega) ?_)
          refine ⟨by (repeat (first | refine agree_upd rfl ?_ | exact agree_over | refine agree_sub rfl ?_ | exact agree_refl | refine agree_base rfl ?_ | refine agree_base' rfl ?_)), 8 - j, by omega, j + 1, v5, by omega, rfl, ?_, rfl, ?_, ?_⟩
          · rw [← hdj2]; exact congrArg (Value.int .i64) (by omega)
          · rw [hls, ← List.append_assoc, byt_append]
            exact ho5
          · exact Keeps.later (k3.trans k4) k5 fun i hi _ e => by have := (ho3.lt i e.symm).1; omega
        · have hj : j = 9 := by omega
          subst hj
          repeat (first | refine wp_region ?_ | refine r_move (by conv => (lhs; whnf)) ?_ | refine r_assign (by conv => (lhs; whnf)) ?_ | refine r_nil ?_ | refine q_then ?_ | refine wp_exit ?_ | refine r_addI rfl rfl (by omega) (by omega) ?_)
          refine ⟨by (repeat (first | refine agree_upd rfl ?_ | exact agree_over | refine agree_sub rfl ?_ | exact agree_refl | refine agree_base rfl ?_ | refine agree_base' rfl ?_)), k - 1, by omega, i + 1, v3, by omega, rfl, rfl, ?_, k3⟩
          rw [low_limb, ← hd]
          exact ho3
      · have hi : i = (dg n).length := by omega
        subst hi
        rw [hdl] at ho
        repeat (first | refine q_then ?_ | refine wp_exit ?_ | refine q_then_exit ?_ | refine q_block_hit rfl ?_)
        try refine wp_seq_block ?_
        refine wp_for ((3, 3) :: [(3, 3), (39, 50)]) (fun k ρ w' => w' = w2 ∧ ∃ (v : Value), ρ 3 = v ∧ Lib.nDigits n ≤ k ∧ k ≤ 9 * dl n ∧ Own w1.heap.size 5 1 w2 v k (byt (low k n))) (9 * dl n)
          ⟨rfl, v, rfl, hD, Nat.le_refl _, ho⟩ ?_
        rintro M u3 w3 ⟨rfl, v3, h3, hMl, hMh, ho3⟩
        refine wp_learn 3 h3 ?_
        clear h3 ho
        have hDp := Lib.nDigits_pos n
        have hr3 : Row All 5 1 w3 v3 M (byt (low M n)) := Row.of_own ho3 Up.all
        have hget : (byt (low M n))[M - 1]? = some (.int .u8 (48 + ((n / 10 ^ (M - 1) % 10 : Nat) : Int))) := by
          rw [byt_digit (by omega)]
          unfold byt Lib.byteCells
          rw [List.getElem?_map, low_get (by omega)]
          rfl
        repeat (first | refine r_len (by conv => (lhs; whnf)) hr3 ?_ | refine r_index1 (i := M - 1) (by conv => (lhs; whnf)) rfl (by omega) hr3 (by omega) ?_ | refine wp_seq_region ?_ | refine wp_seq_seq ?_ | refine wp_region ?_ | refine r_move (by conv => (lhs; whnf)) ?_ | refine r_subI rfl rfl (by omega) (by omega) ?_)
        refine r_load_row rfl hr3 hget ?_
        repeat (first | refine r_nil ?_ | refine q_then ?_ | refine r_eql rfl rfl ?_)
        try refine wp_seq_cond ?_
        refine wp_cond_dec rfl ?_ ?_ <;> intro hz
        · have hMD : Lib.nDigits n ≤ M - 1 := by
            rcases Nat.lt_or_ge (Lib.nDigits n) M with h | h
            · omega
            · exfalso
              have := high_digit hn0
              rw [show Lib.nDigits n - 1 = M - 1 by omega] at this
              omega
          repeat (first | refine r_len (by conv => (lhs; whnf)) hr3 ?_ | refine wp_region ?_ | refine r_move (by conv => (lhs; whnf)) ?_ | refine q_then ?_ | refine wp_block_region ?_ | refine wp_skip ?_ | refine r_subI rfl rfl (by omega) (by omega) ?_)
          refine r_slice_own (k := M - 1) (by conv => (lhs; whnf)) ho3 rfl (by omega) (by omega) (by omega) ?_
          intro v4 ho4
          rw [byt_take, low_take (by omega)] at ho4
          repeat (first | refine r_assign (by conv => (lhs; whnf)) ?_ | refine r_nil ?_ | refine q_then ?_ | refine q_block ?_)
          exact ⟨by (repeat (first | refine agree_upd rfl ?_ | exact agree_over | refine agree_sub rfl ?_ | exact agree_refl | refine agree_base rfl ?_ | refine agree_base' rfl ?_)), M - 1, by omega, rfl, v4, rfl, hMD, by omega, ho4⟩
        · have hMD : M = Lib.nDigits n := by
            rcases Nat.lt_or_ge (Lib.nDigits n) M with h | h
            · exact absurd (by have := digit_above (n := n) (k := M - 1) (by omega); omega) hz
            · omega
          subst hMD
          have hg3 := hg.to k2
          have hrev := itoa_rev z
          rw [← hn] at hrev
          repeat (first | refine r_load_blk rfl hg3 rfl ?_ | refine wp_seq_region ?_ | refine wp_seq_seq ?_ | refine wp_region ?_ | refine r_nil ?_ | refine q_then ?_ | refine wp_exit ?_ | refine r_field rfl ?_)
          first | refine wp_seq_cond ?_ | refine wp_thenB ?_ | refine wp_thenBB ?_ | skip
          refine wp_join [(3, 3), (53, 55)] (fun ρ w' => ∃ v, ρ 3 = v ∧ Own w1.heap.size 5 1 w' v (Lib.itoa z).length (byt (Lib.itoa z).reverse) ∧ Ext w1 w') rfl ?_ ?_ ?_
          · intro hneg
            rw [if_pos hneg] at hrev
            have hlen : (Lib.itoa z).length = Lib.nDigits n + 1 := by
              have := congrArg List.length hrev
              simpa [low_length] using this
            rw [hrev, hlen, byt_append]
            repeat (first | refine wp_region ?_ | refine r_move (by conv => (lhs; whnf)) ?_)
            refine r_lit1 rfl rfl ?_
            intro w4 g4 k4 hg4 hgs4
            refine r_append1 (by conv => (lhs; whnf)) (own_to ho3 k4) rfl hg4 (by omega) rfl (fun u hu => by rw [List.mem_singleton.1 hu]; rfl) (by unfold maxLen; omega) (by omega) (by have := k2.size; have := k4.size; omega) ?_
            intro v5 w5 ho5 k5
            repeat (first | refine r_assign (by conv => (lhs; whnf)) ?_ | refine r_nil ?_ | refine q_then ?_)
            refine ⟨by (repeat (first | refine agree_upd rfl ?_ | exact agree_over | refine agree_sub rfl ?_ | exact agree_refl | refine agree_base rfl ?_ | refine agree_base' rfl ?_)), v5, rfl, ho5, ?_⟩
            exact Keeps.later (k2.trans k4) k5 fun i hi _ e => by have := (ho3.lt i e.symm).1; omega
          · intro hneg
            rw [if_neg hneg, List.append_nil] at hrev
            have hlen : (Lib.itoa z).length = Lib.nDigits n := by
              have := congrArg List.length hrev
              simpa [low_length] using this
            rw [hrev, hlen]
            repeat (first | refine q_then ?_ | refine wp_skip ?_)
            exact ⟨by (repeat (first | refine agree_upd rfl ?_ | exact agree_over | refine agree_sub rfl ?_ | exact agree_refl | refine agree_base rfl ?_ | refine agree_base' rfl ?_)), v3, rfl, ho3, k2⟩
          rintro u4 w4 ⟨v4, h4, ho4, k4⟩
          refine wp_learn 3 h4 ?_
          clear h4 ho3 hr3 hget
          obtain ⟨X, hX⟩ : ∃ X, X = Lib.itoa z := ⟨_, rfl⟩
          rw [← hX] at ho4 ⊢
          have hX0 : 0 < X.length := by
            have := congrArg List.length hrev
            rw [← hX] at this
            simp [low_length] at this
            omega
          have hXb : X.length ≤ 9 * dl n + 1 := by
            have := congrArg List.length hrev
            rw [← hX] at this
            simp [low_length] at this
            split at this <;> simp at this <;> omega
          obtain ⟨gb, cap, cs, rfl, hgb, hb4, htk, hcl, hcap, hmx, hce⟩ := own_block ho4 hX0
          have hc0 : ∀ p, p < X.length → cs[p]? = (byt X)[X.length - 1 - p]? := by
            intro p hp
            have h1 : cs[p]? = (cs.take X.length)[p]? := by rw [List.getElem?_take, if_pos hp]
            rw [h1, htk]
            unfold byt Lib.byteCells
            rw [List.getElem?_map, List.getElem?_map, List.getElem?_reverse hp]
          repeat (first | refine wp_seq_region ?_ | refine wp_seq_seq ?_ | refine wp_region ?_ | refine r_move (by conv => (lhs; whnf)) ?_ | refine r_assign (by conv => (lhs; whnf)) ?_ | refine r_nil ?_ | refine q_then ?_ | refine r_len_sl rfl ?_ | refine r_subI rfl rfl (by omega) (by omega) ?_)
          try refine wp_seq_block ?_
          refine wp_for [(7, 9), (59, 80)] (fun k ρ w' => ∃ (i : Nat) (cs' : List Value), k + i = X.length ∧ ρ 7 = .int .i64 (i : Int) ∧ ρ 8 = .int .i64 ((X.length : Int) - 1 - i) ∧ 2 * i ≤ X.length + 1 ∧ cs'.length = cs.length ∧
              (∀ p, p < X.length → cs'[p]? = if p < i ∨ X.length ≤ p + i then (byt X)[p]? else (byt X)[X.length - 1 - p]?) ∧ Blk w' gb 5 cs' ∧ Keeps (fun k => k ≠ gb) w4 w') X.length
            ⟨0, cs, by omega, rfl, congrArg (Value.int .i64) (by omega), by omega, rfl, fun p hp => by rw [if_neg (by omega)]; exact hc0 p hp, hb4, .refl⟩ ?_
          rintro k5 u5 w5 ⟨i, cs', hki5, h7, h8, hii, hcl', hcs', hb5, k5b⟩
          refine wp_learn 7 h7 (wp_learn 8 h8 ?_)
          clear h7 h8 hb4
          repeat (first | refine wp_seq_region ?_ | refine wp_seq_seq ?_ | refine wp_region ?_ | refine r_move (by conv => (lhs; whnf)) ?_ | refine r_nil ?_ | refine q_then ?_ | refine r_lss rfl rfl ?_)
          try refine wp_seq_cond ?_
          refine wp_cond_dec rfl ?_ ?_ <;> intro hij
          · obtain ⟨j, hj⟩ : ∃ j, j + i + 1 = X.length := ⟨X.length - 1 - i, by omega⟩
            have hxl : (byt X).length = X.length := byt_length X
            have hei : cs'[i]? = some ((byt X)[j]'(by omega)) := by
              rw [hcs' i (by omega), if_neg (by omega), show X.length - 1 - i = j by omega, List.getElem?_eq_getElem]
            have hej : cs'[j]? = some ((byt X)[i]'(by omega)) := by
              rw [hcs' j (by omega), if_neg (by omega), show X.length - 1 - j = i by omega, List.getElem?_eq_getElem]
            have one : ∀ q (hq : q < (byt X).length), ((byt X)[q]).oneCell' = true := by
              intro q hq
              simp [Lib.byteCells, Value.oneCell']
            repeat (first | refine r_index_own (i := i) rfl rfl rfl (by omega) ?_ | refine wp_seq_region ?_ | refine wp_seq_bseq ?_ | refine wp_region ?_ | refine r_move (by conv => (lhs; whnf)) ?_ | refine wp_block_seq ?_ | refine wp_skip ?_)
            refine r_load_blk rfl hb5 hei ?_
            repeat (first | refine r_index_own (i := i) rfl rfl rfl (by omega) ?_ | refine r_index_own (i := j) rfl rfl (by omega) (by omega) ?_ | refine r_load_blk rfl hb5 hej ?_ | refine wp_seq_region ?_ | refine wp_region ?_ | refine r_move (by conv => (lhs; whnf)) ?_ | refine r_assign (by conv => (lhs; whnf)) ?_ | refine r_nil ?_)
            refine r_store rfl rfl hb5 (by omega) (one _ _) ?_
            intro w6 k6 hb6
            repeat (first | refine r_index_own (i := j) rfl rfl (by omega) (by omega) ?_ | refine wp_region ?_ | refine r_move (by conv => (lhs; whnf)) ?_ | refine r_nil ?_)
            refine r_store rfl rfl hb6 (by simp; omega) (one _ _) ?_
            intro w7 k7 hb7
            repeat (first | refine wp_region ?_ | refine r_move (by conv => (lhs; whnf)) ?_ | refine r_assign (by conv => (lhs; whnf)) ?_ | refine r_nil ?_ | refine q_then ?_ | refine r_addI rfl rfl (by omega) (by omega) ?_ | refine r_subI rfl rfl (by omega) (by omega) ?_)
            refine ⟨by (repeat (first | refine agree_upd rfl ?_ | exact agree_over | refine agree_sub rfl ?_ | exact agree_refl | refine agree_base rfl ?_ | refine agree_base' rfl ?_)), k5 - 1, by omega, i + 1, _, by omega, rfl, congrArg (Value.int .i64) (by omega), by omega, by simpa using hcl', fun p hp => ?_, hb7, (k5b.trans k6).trans k7⟩
            by_cases e1 : p = j
            · subst e1
              rw [List.getElem?_set_self (by simp; omega), if_pos (by omega)]
              exact (List.getElem?_eq_getElem (by omega)).symm
            · rw [List.getElem?_set_ne (by omega)]
              by_cases e2 : p = i
              · subst e2
                rw [List.getElem?_set_self (by omega), if_pos (by omega)]
                exact (List.getElem?_eq_getElem (by omega)).symm
              · rw [List.getElem?_set_ne (by omega), hcs' p hp]
                by_cases e3 : p < i ∨ X.length ≤ p + i
                · rw [if_pos e3, if_pos (by omega)]
                · rw [if_neg e3, if_neg (by omega)]
          · repeat (first | refine wp_seq_region ?_ | refine wp_region ?_ | refine r_move (by conv => (lhs; whnf)) ?_ | refine wp_exit ?_)
            refine r_convw (v := strV X) (by conv => (lhs; whnf)) (run_convert_bytes_back _ _ _ 5 _ _ X (inferInstance : SlT Tryz.prog _ 5).und (inferInstance : IntT Tryz.prog 5 _).und (inferInstance : StrT Tryz.prog _).und ?_) ?_
            · intro p hp
              have h9 := hcs' p hp
              have h10 : cs'[p]? = (byt X)[p]? := by
                rw [h9]
                split
                · rfl
                · congr 1; omega
              have ha : (⟨gb, 0, none⟩ : Addr).add p = ⟨gb, p, none⟩ := by
                unfold Addr.add
                split <;> simp_all
              rw [ha]
              refine hb5.cell ?_
              rw [h10]
              unfold byt Lib.byteCells
              rw [List.getElem?_map, List.getElem?_eq_getElem hp]
              rfl
            · repeat (first | refine r_assign (by conv => (lhs; whnf)) ?_ | refine r_nil ?_ | refine q_then ?_ | refine wp_ret ?_)
              refine end_tmp rfl (by conv => (lhs; whnf)) ⟨rfl, ?_⟩
              exact k1.trans (Keeps.later k4 k5b fun i hi _ => by omega)
end Go.Proofs.YtpmnjjmngogkkaaGreatDoor
