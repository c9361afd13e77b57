/- Fractions as strings; which are short; the first one in a list that meets a test. -/
import Derived.Test.YtpmnjjmngogkkaaGreatDoorVec
set_option linter.unusedVariables false
set_option linter.unusedSimpArgs false
namespace Go.Proofs.YtpmnjjmngogkkaaGreatDoor
open Go Go.RowKit

/-- The canonical form. -/
def rstr (q : Rat) : List UInt8 := Lib.itoa q.num ++ (if q.den = 1 then [] else 47 :: Lib.decDigits q.den)
theorem nDigits_le_dl (a : Nat) {k : Nat} (h : dl a ≤ k) : Lib.nDigits a ≤ 9 * k + 1 := by
  by_cases h0 : a = 0
  · subst h0; rw [Lib.nDigits_small (by decide)]; omega
  · have := nDigits_dl (n := a) (by omega); omega
theorem itoa_length (z : Int) : (Lib.itoa z).length ≤ Lib.nDigits z.natAbs + 1 := by
  unfold Lib.itoa
  split
  · rw [List.length_cons, Lib.decDigits_length]; omega
  · rw [Lib.decDigits_length, show z.toNat = z.natAbs by omega]; omega
theorem rstr_c {S : Nat → Prop} {w : World} {v : Value} {q : Rat} (ht : Tab w) (h : RatV S w v q) (hl : rl q 400000000000) :
    Gives Tryz.prog 16 [v] w fun v' w' => v' = strV (rstr q) ∧ Ext w w' := by
  obtain ⟨m, b, rfl, hm, hb⟩ := h
  obtain ⟨hl1, hl2⟩ := hl
  have hbl : (dg (bot q)).length = 0 ↔ q.den = 1 := by
    have h1 := @dl_eq_zero (bot q)
    unfold dl at h1
    rw [h1]
    unfold bot
    have := q.den_pos
    split <;> omega
  have hn1 := itoa_length q.num
  have hn2 := nDigits_le_dl q.num.natAbs hl1
  have hn3 := nDigits_le_dl q.den hl2
  refine gives_of Tryz.func16 rfl rfl rfl ?_
  repeat (first | refine wp_seq_region ?_ | refine wp_region ?_)
  refine r_box (cs := [.bool (tst (q.num < 0)), m, b]) (by conv => (lhs; whnf)) rfl ?_
  intro w1 g k1 hg hgs
  replace hb := hb.to k1
  repeat (first | refine r_load_part rfl hg rfl rfl ?_ | refine wp_seq_region ?_ | refine wp_region ?_ | refine r_assign (by conv => (lhs; whnf)) ?_ | refine r_nil ?_ | refine r_field rfl ?_)
  refine r_call (istr_c (a := q.num) (ht.to k1) ⟨m, rfl, hm.to k1⟩ (by unfold zl; omega)) rfl ?_
  rintro v2 w2 ⟨rfl, k2⟩
  replace hg := hg.to k2
  replace hb := hb.to k2
  repeat (first | refine r_load_blk rfl hg rfl ?_ | refine wp_seq_region ?_ | refine wp_seq_seq ?_ | refine wp_region ?_ | refine r_assign (by conv => (lhs; whnf)) ?_ | refine r_nil ?_ | refine q_then ?_ | refine r_len (by conv => (lhs; whnf)) (by assumption) ?_ | refine r_gtr rfl rfl ?_ | refine r_field rfl ?_)
  try refine wp_seq_cond ?_
  refine wp_cond_dec rfl ?_ ?_ <;> intro hc
  · have hq : ¬ q.den = 1 := fun h => by have := hbl.2 h; omega
    have hbq : bot q = q.den := by unfold bot; rw [if_neg hq]
    rw [hbq] at hb
    repeat (first | refine r_load_blk rfl hg rfl ?_ | refine wp_region ?_ | refine r_move (by conv => (lhs; whnf)) ?_ | refine r_field rfl ?_)
    refine r_call (mstr_c ((ht.to k1).to k2) hb (by omega)) rfl ?_
    rintro v3 w3 ⟨rfl, k3⟩
    refine r_cat (a := [47]) rfl rfl (by rw [Lib.decDigits_length]; simp; omega) ?_
    refine r_cat rfl rfl (by rw [List.length_append, Lib.decDigits_length]; simp; omega) ?_
    repeat (first | refine wp_seq_region ?_ | refine wp_region ?_ | refine r_move (by conv => (lhs; whnf)) ?_ | refine r_assign (by conv => (lhs; whnf)) ?_ | refine r_nil ?_ | refine q_then ?_ | refine wp_ret ?_)
    refine end_tmp rfl (by conv => (lhs; whnf)) ⟨?_, (k1.trans k2).trans k3⟩
    unfold rstr
    rw [if_neg hq]
    rfl
  · have hq : q.den = 1 := hbl.1 (by omega)
    repeat (first | refine wp_seq_region ?_ | refine wp_region ?_ | refine r_move (by conv => (lhs; whnf)) ?_ | refine r_assign (by conv => (lhs; whnf)) ?_ | refine r_nil ?_ | refine q_then ?_ | refine wp_ret ?_ | refine wp_skip ?_)
    refine end_tmp rfl (by conv => (lhs; whnf)) ⟨?_, k1.trans k2⟩
    unfold rstr
    rw [if_pos hq, List.append_nil]

/-- Few digits in both parts. -/
def Short (q : Rat) : Prop := Lib.nDigits q.num.natAbs ≤ 60 ∧ Lib.nDigits q.den ≤ 60
theorem short_c {S : Nat → Prop} {w : World} {v : Value} {q : Rat} (hS : Up S w) (ht : Tab w) (h : RatV S w v q) (hl : rl q 400000000000) :
    Gives Tryz.prog 164 [v] w fun v' w' => v' = .bool (tst (Short q)) ∧ Ext w w' := by
  have h0 := h
  obtain ⟨m, b, rfl, hm, hb⟩ := h
  obtain ⟨hl1, hl2⟩ := hl
  refine gives_of Tryz.func164 rfl rfl rfl ?_
  repeat (first | refine wp_seq_region ?_ | refine wp_region ?_)
  refine r_box (cs := [.bool (tst (q.num < 0)), m, b]) (by conv => (lhs; whnf)) rfl ?_
  intro w1 g k1 hg hgs
  repeat (first | refine r_load_blk rfl hg rfl ?_ | refine wp_seq_region ?_ | refine wp_region ?_ | refine r_assign (by conv => (lhs; whnf)) ?_ | refine r_nil ?_ | refine r_field rfl ?_)
  refine r_call (mstr_c (ht.to k1) (hm.to k1) (by omega)) rfl ?_
  rintro v2 w2 ⟨rfl, k2⟩
  have hlen1 := Lib.decDigits_length q.num.natAbs
  have hlen2 := Lib.decDigits_length q.den
  repeat (first | refine r_lenS rfl ?_ | refine r_move (by conv => (lhs; whnf)) ?_ | refine r_leq rfl rfl ?_)
  refine r_guard_split rfl rfl ?_ ?_ <;> intro hc
  · repeat (first | refine r_load_all rfl (hg.to k2) rfl ?_ | refine r_guard_run rfl rfl ?_)
    refine r_call (den_c (hS.to (k1.trans k2)) (h0.to (k1.trans k2))) rfl ?_
    rintro v3 w3 ⟨k3, h3⟩
    repeat (first | refine r_guard_run rfl rfl ?_)
    refine r_call (mstr_c (((ht.to k1).to k2).to k3) h3 (by omega)) rfl ?_
    rintro v4 w4 ⟨rfl, k4⟩
    repeat (first | refine r_lenS rfl ?_ | refine r_assign (by conv => (lhs; whnf)) ?_ | refine r_nil ?_ | refine q_then ?_ | refine wp_ret ?_ | refine r_guard_run rfl rfl ?_ | refine r_pick_true rfl (by conv => (lhs; whnf)) ?_ | refine r_leq rfl rfl ?_)
    refine end_tmp rfl (by conv => (lhs; whnf)) ⟨congrArg Value.bool (tst_congr ?_), ((k1.trans k2).trans k3).trans k4⟩
    unfold Short
    omega
  · repeat (first | refine r_assign (by conv => (lhs; whnf)) ?_ | refine r_nil ?_ | refine q_then ?_ | refine wp_ret ?_ | refine r_guard_skip rfl rfl rfl ?_ | refine r_pick_false rfl (by conv => (lhs; whnf)) ?_)
    refine end_tmp rfl (by conv => (lhs; whnf)) ⟨?_, k1.trans k2⟩
    show Value.bool false = _
    rw [tst_false fun h => hc (by have := h.1; omega)]
theorem long_c {S : Nat → Prop} {w : World} {v : Value} {q : Rat} (hS : Up S w) (ht : Tab w) (h : RatV S w v q) (hl : rl q 400000000000) :
    Gives Tryz.prog 163 [v] w fun v' w' => v' = .bool (tst (¬ Short q)) ∧ Ext w w' := by
  have h0 := h
  obtain ⟨m, b, rfl, hm, hb⟩ := h
  refine gives_of Tryz.func163 rfl rfl rfl ?_
  repeat (first | refine wp_seq_region ?_ | refine wp_region ?_)
  refine r_box (cs := [.bool (tst (q.num < 0)), m, b]) (by conv => (lhs; whnf)) rfl ?_
  intro w1 g k1 hg hgs
  repeat (first | refine r_load_all rfl hg rfl ?_ | refine wp_seq_region ?_ | refine wp_region ?_ | refine r_assign (by conv => (lhs; whnf)) ?_ | refine r_nil ?_)
  refine r_call (short_c (hS.to k1) (ht.to k1) (h0.to k1) hl) rfl ?_
  rintro v2 w2 ⟨rfl, k2⟩
  repeat (first | refine r_assign (by conv => (lhs; whnf)) ?_ | refine r_nil ?_ | refine q_then ?_ | refine wp_ret ?_ | refine r_notB rfl ?_)
  exact end_tmp rfl (by conv => (lhs; whnf)) ⟨rfl, k1.trans k2⟩
theorem long2_c {S : Nat → Prop} {w : World} {v : Value} {q : Rat} (hS : Up S w) (ht : Tab w) (h : RatV S w v q) (hl : rl q 400000000000) :
    Gives Tryz.prog 166 [v] w fun v' w' => v' = .bool (tst (¬ Short q)) ∧ Ext w w' := by
  have h0 := h
  obtain ⟨m, b, rfl, hm, hb⟩ := h
  refine gives_of Tryz.func166 rfl rfl rfl ?_
  repeat (first | refine wp_seq_region ?_ | refine wp_region ?_)
  refine r_box (cs := [.bool (tst (q.num < 0)), m, b]) (by conv => (lhs; whnf)) rfl ?_
  intro w1 g k1 hg hgs
  repeat (first | refine r_load_all rfl hg rfl ?_ | refine wp_seq_region ?_ | refine wp_region ?_ | refine r_assign (by conv => (lhs; whnf)) ?_ | refine r_nil ?_)
  refine r_call (short_c (hS.to k1) (ht.to k1) (h0.to k1) hl) rfl ?_
  rintro v2 w2 ⟨rfl, k2⟩
  repeat (first | refine r_assign (by conv => (lhs; whnf)) ?_ | refine r_nil ?_ | refine q_then ?_ | refine wp_ret ?_ | refine r_notB rfl ?_)
  exact end_tmp rfl (by conv => (lhs; whnf)) ⟨rfl, k1.trans k2⟩
theorem neg_test_c {S : Nat → Prop} {w : World} {v : Value} {q : Rat} (h : RatV S w v q) :
    Gives Tryz.prog 170 [v] w fun v' w' => v' = .bool (tst (q.num.sign < 0)) ∧ Ext w w' := by
  have h0 := h
  obtain ⟨m, b, rfl, hm, hb⟩ := h
  refine gives_of Tryz.func170 rfl rfl rfl ?_
  repeat (first | refine wp_seq_region ?_ | refine wp_region ?_)
  refine r_box (cs := [.bool (tst (q.num < 0)), m, b]) (by conv => (lhs; whnf)) rfl ?_
  intro w1 g k1 hg hgs
  repeat (first | refine r_load_all rfl hg rfl ?_ | refine wp_seq_region ?_ | refine wp_region ?_ | refine r_assign (by conv => (lhs; whnf)) ?_ | refine r_nil ?_)
  refine r_call (rsign_c (h0.to k1)) rfl ?_
  rintro v2 w2 ⟨rfl, k2⟩
  repeat (first | refine r_assign (by conv => (lhs; whnf)) ?_ | refine r_nil ?_ | refine q_then ?_ | refine wp_ret ?_ | refine r_lss rfl rfl ?_)
  exact end_tmp rfl (by conv => (lhs; whnf)) ⟨rfl, k1.trans k2⟩

/-- The first fraction that meets a test, or -1. -/
def Found (l : List Rat) (p : Rat → Prop) (i : Int) : Prop := (i = -1 ∧ ∀ q ∈ l, ¬ p q) ∨ ∃ (k : Nat) (q : Rat), i = k ∧ l[k]? = some q ∧ p q ∧ ∀ j q', j < k → l[j]? = some q' → ¬ p q'
theorem index_c {S : Nat → Prop} {w : World} {g m cap : Nat} {T : TypeId} {ts : List Tri} {l : List Rat} {f : FuncId} [ci : CallI Tryz.prog f] {first caps : List Value} (p : Rat → Prop)
    (hb : Blk w g T (flat ts)) (hr : Rats S w (ts.take m) l) (hm : m ≤ ts.length) (hmm : m ≤ 1000000000)
    (hf : ∀ w' v q, Ext w w' → RatV S w' v q → q ∈ l → Gives Tryz.prog f (first ++ [v] ++ caps) w' fun v' w'' => v' = .bool (tst (p q)) ∧ Ext w' w'') :
    Gives Tryz.prog 169 [.slice (some ⟨g, 0, none⟩) m cap, .func (.func f) first.toArray caps.toArray] w fun v' w' => (∃ i, v' = .int .i64 i ∧ Found l p i) ∧ Ext w w' := by
  have hlen : l.length = m := by rw [← hr.length, List.length_take]; omega
  refine gives_of Tryz.func169 rfl rfl rfl ?_
  repeat (first | refine wp_seq_region ?_ | refine wp_seq_seq ?_ | refine wp_region ?_ | refine r_move (by conv => (lhs; whnf)) ?_ | refine r_assign (by conv => (lhs; whnf)) ?_ | refine r_nil ?_ | refine q_then ?_ | refine r_len_sl rfl ?_)
  try refine wp_seq_block ?_
  refine wp_for [(4, 5), (8, 18)] (fun k ρ w' => ∃ i : Nat, ρ 8 = .int .i64 (i : Int) ∧ i + k = m ∧ (∀ j q, j < i → l[j]? = some q → ¬ p q) ∧ Ext w w') m ?_ ?_
  · exact ⟨0, rfl, by omega, fun j q h => by omega, .refl⟩
  rintro k u w1 ⟨i, h8, hik, hno, k1⟩
  refine wp_learn 8 h8 ?_
  repeat (first | refine wp_seq_region ?_ | refine wp_region ?_ | refine r_nil ?_ | refine q_then ?_ | refine r_lss rfl rfl ?_)
  try refine wp_seq_cond ?_
  refine wp_cond_dec rfl ?_ ?_ <;> intro hc
  · obtain ⟨q, hq⟩ : ∃ q, l[i]? = some q := ⟨l[i]'(by omega), List.getElem?_eq_getElem (by omega)⟩
    obtain ⟨t, ht, htq⟩ := hr.get hq
    have ht' : ts[i]? = some t := by rw [List.getElem?_take] at ht; split at ht; exact ht; cases ht
    repeat (first | refine wp_seq_region ?_ | refine wp_seq_bseq ?_ | refine wp_region ?_ | refine r_move (by conv => (lhs; whnf)) ?_ | refine r_assign (by conv => (lhs; whnf)) ?_ | refine r_nil ?_ | refine wp_block_seq ?_ | refine wp_skip ?_ | refine r_index_sl rfl rfl (by omega) (by omega) ?_)
    refine r_load_tri i rfl (by omega) (hb.to k1) ht' ?_
    refine r_callv rfl (hf _ _ q k1 (htq.to k1) (List.mem_of_getElem? hq)) rfl ?_
    rintro v2 w2 ⟨rfl, k2⟩
    repeat (first | refine r_nil ?_ | refine q_then ?_)
    try refine wp_seq_cond ?_
    refine wp_cond_dec rfl ?_ ?_ <;> intro hp
    · repeat (first | refine wp_seq_region ?_ | refine wp_region ?_ | refine r_move (by conv => (lhs; whnf)) ?_ | refine r_assign (by conv => (lhs; whnf)) ?_ | refine r_nil ?_ | refine q_then ?_ | refine wp_ret ?_ | refine q_then_ret ?_ | refine q_block_ret ?_)
      exact end_tmp rfl (by conv => (lhs; whnf)) ⟨⟨_, rfl, .inr ⟨i, q, rfl, hq, hp, hno⟩⟩, k1.trans k2⟩
    · repeat (first | refine wp_region ?_ | refine r_move (by conv => (lhs; whnf)) ?_ | refine r_nil ?_ | refine q_then ?_ | refine wp_skip ?_ | refine r_addI rfl rfl (by omega) (by omega) ?_)
      refine ⟨by (repeat (first | refine agree_upd rfl ?_ | exact agree_over | refine agree_sub rfl ?_ | exact agree_refl)), k - 1, by omega, i + 1, congrArg (Value.int .i64) (by omega), by omega, fun j q' hj hq' => ?_, k1.trans k2⟩
      by_cases e : j = i
      · subst e
        rw [hq] at hq'
        cases hq'
        exact hp
      · exact hno j q' (by omega) hq'
  · repeat (first | refine wp_seq_region ?_ | refine wp_region ?_ | refine r_assign (by conv => (lhs; whnf)) ?_ | refine r_nil ?_ | refine q_then ?_ | refine wp_ret ?_ | refine wp_exit ?_)
    refine end_tmp rfl (by conv => (lhs; whnf)) ⟨⟨_, rfl, .inl ⟨rfl, fun q hq => ?_⟩⟩, k1⟩
    obtain ⟨j, hj, hjq⟩ := List.mem_iff_getElem.1 hq
    exact hno j q (by omega) (by rw [← hjq]; exact List.getElem?_eq_getElem hj)
theorem found_pos {l : List Rat} {p : Rat → Prop} {i : Int} (h : Found l p i) : 0 ≤ i ↔ ∃ q ∈ l, p q := by
  rcases h with ⟨rfl, h⟩ | ⟨k, q, rfl, hq, hp, _⟩
  · constructor
    · intro h1; omega
    · rintro ⟨q, hq, hp⟩; exact absurd hp (h q hq)
  · exact ⟨fun _ => ⟨q, List.mem_of_getElem? hq, hp⟩, fun _ => by omega⟩
theorem contains_c {S : Nat → Prop} {w : World} {g m cap : Nat} {T : TypeId} {ts : List Tri} {l : List Rat} {f : FuncId} [ci : CallI Tryz.prog f] {first caps : List Value} (p : Rat → Prop)
    (hb : Blk w g T (flat ts)) (hr : Rats S w (ts.take m) l) (hm : m ≤ ts.length) (hmm : m ≤ 1000000000)
    (hf : ∀ w' v q, Ext w w' → RatV S w' v q → q ∈ l → Gives Tryz.prog f (first ++ [v] ++ caps) w' fun v' w'' => v' = .bool (tst (p q)) ∧ Ext w' w'') :
    Gives Tryz.prog 129 [.slice (some ⟨g, 0, none⟩) m cap, .func (.func f) first.toArray caps.toArray] w fun v' w' => v' = .bool (tst (∃ q ∈ l, p q)) ∧ Ext w w' := by
  refine gives_of Tryz.func129 rfl rfl rfl ?_
  repeat (first | refine wp_seq_region ?_ | refine wp_region ?_ | refine r_move (by conv => (lhs; whnf)) ?_ | refine r_assign (by conv => (lhs; whnf)) ?_ | refine r_nil ?_)
  refine r_call (index_c p hb hr hm hmm hf) rfl ?_
  rintro v2 w2 ⟨⟨i, rfl, hi⟩, k2⟩
  repeat (first | refine r_assign (by conv => (lhs; whnf)) ?_ | refine r_nil ?_ | refine q_then ?_ | refine wp_ret ?_ | refine r_geq rfl rfl ?_)
  exact end_tmp rfl (by conv => (lhs; whnf)) ⟨congrArg Value.bool (tst_congr (found_pos hi)), k2⟩
end Go.Proofs.YtpmnjjmngogkkaaGreatDoor
