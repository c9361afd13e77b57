/- The statement FracMakes: whatever two integers come in, it returns true. -/
import Derived.Test.YtpmnjjmngogkkaaGreatDoorForm
import Derived.Test.YtpmnjjmngogkkaaGreatDoorAwake
set_option linter.unusedVariables false
set_option linter.unusedSimpArgs false
namespace Go.Proofs.YtpmnjjmngogkkaaGreatDoor
open Go Go.RowKit

theorem zl_i64 {z : Int} (h0 : -9223372036854775808 ≤ z) (h1 : z ≤ 9223372036854775807) {n : Nat} (hn : 3 ≤ n) : zl z ≤ n := Nat.le_trans (dl_le (k := 3) (by omega)) hn
theorem rl_i64 {z : Int} (h0 : -9223372036854775808 ≤ z) (h1 : z ≤ 9223372036854775807) {n : Nat} (hn : 3 ≤ n) : rl (z : Rat) n :=
  ⟨zl_i64 h0 h1 hn, Nat.le_trans (dl_le (k := 1) (by show 1 < _; omega)) (by omega)⟩
theorem rl_mk {a b : Int} (ha0 : -9223372036854775808 ≤ a) (ha1 : a ≤ 9223372036854775807) (hb0 : -9223372036854775808 ≤ b) (hb1 : b ≤ 9223372036854775807) (hb : b ≠ 0) {n : Nat} (hn : 3 ≤ n) : rl (mkRat (a * b.sign) b.natAbs) n := by
  obtain ⟨h1, h2, _⟩ := mkRat_parts (a * b.sign) (d := b.natAbs) (by omega)
  rw [mul_sgn_abs a b hb] at h1
  have h3 : a.natAbs / Nat.gcd b.natAbs (a * b.sign).natAbs ≤ a.natAbs := Nat.div_le_self ..
  have h4 : b.natAbs / Nat.gcd b.natAbs (a * b.sign).natAbs ≤ b.natAbs := Nat.div_le_self ..
  rw [mul_sgn_abs a b hb] at h3 h4 h2
  constructor
  · rw [h1]; exact Nat.le_trans (dl_le (k := 3) (by omega)) hn
  · rw [h2]; exact Nat.le_trans (dl_le (k := 3) (by omega)) hn
theorem rstr_int (z : Int) : rstr (z : Rat) = Lib.itoa z := by
  unfold rstr
  rw [if_pos (by rfl), List.append_nil]
  rfl

set_option maxHeartbeats 2000000 in
theorem fracMakes_c {w : World} {m n : Int} (ht : Tab w) (hm0 : -9223372036854775808 ≤ m) (hm1 : m ≤ 9223372036854775807) (hn0 : -9223372036854775808 ≤ n) (hn1 : n ≤ 9223372036854775807) :
    Gives Tryz.prog 3 [.int .i64 m, .int .i64 n] w fun v' w' => v' = .bool true ∧ Ext w w' := by
  have hS : Up All w := Up.all
  refine gives_of Tryz.func3 rfl rfl rfl ?_
  repeat (first | refine wp_seq_region ?_ | refine wp_seq_seq ?_ | refine wp_region ?_ | refine r_move (by conv => (lhs; whnf)) ?_ | refine r_assign (by conv => (lhs; whnf)) ?_ | refine r_nil ?_)
  refine r_call (whole_c (z := m) hS hm0 hm1) rfl ?_
  rintro v1 w1 ⟨k1, h1⟩
  repeat (first | refine r_move (by conv => (lhs; whnf)) ?_)
  refine r_call (zof_c (z := m) (hS.to k1) hm0 hm1) rfl ?_
  rintro v2 w2 ⟨k2, h2⟩
  have k := k1.trans k2
  skip
  refine r_call (whole_l (hS.to k) (ht.to k) (h1.to k2) h2 (zl_i64 hm0 hm1 (by omega)) (zl_i64 hm0 hm1 (by omega))) rfl ?_
  rintro v3 w3 ⟨rfl, k3⟩
  replace k := k.trans k3
  repeat (first | refine r_move (by conv => (lhs; whnf)) ?_ | refine r_notB rfl ?_)
  refine r_guard_no rfl rfl (fun h => h rfl) ?_
  repeat (first | refine r_move (by conv => (lhs; whnf)) ?_ | refine r_guard_run rfl rfl ?_)
  refine r_call (of_c (z := m) (hS.to k) hm0 hm1) rfl ?_
  rintro v4 w4 ⟨k4, h4⟩
  replace k := k.trans k4
  repeat (first | refine r_guard_run rfl rfl ?_)
  refine r_call (rstr_c (ht.to k) h4 (rl_i64 hm0 hm1 (by omega))) rfl ?_
  rintro v5 w5 ⟨rfl, k5⟩
  replace k := k.trans k5
  repeat (first | refine r_move (by conv => (lhs; whnf)) ?_ | refine r_guard_run rfl rfl ?_)
  refine r_call (zof_c (z := m) (hS.to k) hm0 hm1) rfl ?_
  rintro v6 w6 ⟨k6, h6⟩
  replace k := k.trans k6
  repeat (first | refine r_guard_run rfl rfl ?_)
  refine r_call (zstr_c h6 (zl_i64 hm0 hm1 (by omega))) rfl ?_
  rintro v7 w7 ⟨rfl, k7⟩
  replace k := k.trans k7
  refine r_guard_run rfl rfl ?_
  refine r_neqS rfl rfl ?_
  repeat (first | refine r_nil ?_ | refine q_then ?_ | refine r_pick_false rfl (by conv => (lhs; whnf)) ?_)
  refine wp_cond_no rfl (fun h => h (rstr_int m)) ?_
  repeat (first | refine wp_seq_region ?_ | refine wp_region ?_ | refine r_move (by conv => (lhs; whnf)) ?_ | refine wp_skip ?_)
  by_cases hn : n = 0
  · subst hn
    refine r_call (make0_c (z := m) (hS.to k)) rfl ?_
    rintro v8 w8 ⟨v, rfl, k8, h8⟩
    obtain ⟨t8, rfl, h8, o81, o82, o83⟩ := RatV.tri h8
    replace k := k.trans k8
    repeat (first | refine r_move (by conv => (lhs; whnf)) ?_ | refine r_extract rfl rfl ?_)
    refine r_alloc (cs := [.bool false, .slice none 0 0, .slice none 0 0]) rfl ?_
    intro w9 g k9 hg hgs
    have hsz := k.size
    replace h8 := h8.to k9
    refine r_store3 rfl rfl hg rfl o81 o82 o83 ?_
    intro w10 k10 hg10
    replace h8 := h8.wrT k10 hg (by decide)
    replace k := (k.trans k9).past k10 (by omega)
    replace hg : Blk w10 g 34 (flat [t8]) := hg10
    repeat (first | refine wp_seq_region ?_ | refine wp_seq_seq ?_ | refine wp_region ?_ | refine r_move (by conv => (lhs; whnf)) ?_ | refine r_assign (by conv => (lhs; whnf)) ?_ | refine r_nil ?_ | refine q_then ?_ | refine r_guard_run rfl rfl ?_ | refine r_eql rfl rfl ?_ | refine wp_cond_yes rfl (by omega) ?_ | refine r_guard_yes rfl rfl (by omega) ?_)
    refine r_load_tri 0 rfl (by decide) hg rfl ?_
    repeat (first | refine r_guard_run rfl rfl ?_)
    refine r_call (rsign_c (v := t8.val) h8) rfl ?_
    rintro v11 w11 ⟨rfl, k11⟩
    replace k := k.trans k11
    repeat (first | refine r_move (by conv => (lhs; whnf)) ?_ | refine r_guard_run rfl rfl ?_ | refine r_pick_true rfl (by conv => (lhs; whnf)) ?_ | refine r_eql rfl rfl ?_)
    refine r_guard_yes rfl rfl rfl ?_
    repeat (first | refine r_guard_run rfl rfl ?_)
    refine r_call (awake_c (ht.to k)) rfl ?_
    rintro v12 w12 ⟨rfl, k12⟩
    repeat (first | refine r_assign (by conv => (lhs; whnf)) ?_ | refine r_nil ?_ | refine q_then ?_ | refine wp_ret ?_ | refine q_then_ret ?_ | refine r_pick_true rfl (by conv => (lhs; whnf)) ?_)
    exact end_tmp rfl (by conv => (lhs; whnf)) ⟨rfl, k.trans k12⟩
  · refine r_call (make_c (a := m) (b := n) (hS.to k) hm0 hm1 hn0 hn1 hn) rfl ?_
    rintro v8 w8 ⟨v, rfl, k8, h8⟩
    obtain ⟨t8, rfl, h8, o81, o82, o83⟩ := RatV.tri h8
    replace k := k.trans k8
    repeat (first | refine r_move (by conv => (lhs; whnf)) ?_ | refine r_extract rfl rfl ?_)
    refine r_alloc (cs := [.bool false, .slice none 0 0, .slice none 0 0]) rfl ?_
    intro w9 g k9 hg hgs
    have hsz := k.size
    replace h8 := h8.to k9
    refine r_store3 rfl rfl hg rfl o81 o82 o83 ?_
    intro w10 k10 hg10
    replace h8 := h8.wrT k10 hg (by decide)
    replace k := (k.trans k9).past k10 (by omega)
    replace hg : Blk w10 g 34 (flat [t8]) := hg10
    have ht10 := ht.to k
    have hS10 : Up All w10 := Up.all
    repeat (first | refine wp_seq_region ?_ | refine wp_seq_seq ?_ | refine wp_region ?_ | refine r_move (by conv => (lhs; whnf)) ?_ | refine r_assign (by conv => (lhs; whnf)) ?_ | refine r_nil ?_ | refine q_then ?_ | refine wp_skip ?_ | refine r_eql rfl rfl ?_ | refine wp_cond_no rfl (by omega) ?_)
    refine wp_drawn 14 (by kernel_rfl) (by kernel_rfl) ?_
    apply ob_step
    · intro x w1 k1 hd
      refine r_move (by conv => (lhs; whnf)) ?_
      refine r_nil ?_
      exact ob_eq
    refine ob_step (e := Ent.eq (.bool true)) ?_ ?_
    · intro x w1 k1 hd
      refine r_eql rfl rfl ?_
      refine r_nil ?_
      exact ob_eqv (by rw [tst_true rfl]) .refl
    apply ob_step
    · intro x w1 k1 hd
      refine r_move (by conv => (lhs; whnf)) ?_
      refine r_nil ?_
      exact ob_eq
    refine ob_step (e := Ent.eq t8.val) ?_ ?_
    · intro x w1 k1 hd
      refine r_guard_run rfl rfl ?_
      refine r_load_tri 0 rfl (by decide) (hg.to k1) rfl ?_
      refine r_nil ?_
      exact ob_eq
    refine ob_step (e := Ent.eq (.int .i64 m)) ?_ ?_
    · intro x w1 k1 hd
      refine r_guard_run rfl rfl ?_
      refine r_move rfl ?_
      refine r_nil ?_
      exact ob_eq
    refine ob_step (e := zE All m) ?_ ?_
    · intro x w1 k1 hd
      refine r_guard_run rfl rfl ?_
      refine r_call (zof_c (z := m) (hS10.to k1) hm0 hm1) rfl ?_
      rintro v2 w2 ⟨k2, h2⟩
      exact r_nil (ob_of k2 h2)
    refine ob_step (e := Ent.eq (.int .i64 n)) ?_ ?_
    · intro x w1 k1 hd
      refine r_guard_run rfl rfl ?_
      refine r_move rfl ?_
      refine r_nil ?_
      exact ob_eq
    refine ob_step (e := zE All n) ?_ ?_
    · intro x w1 k1 hd
      refine r_guard_run rfl rfl ?_
      refine r_call (zof_c (z := n) (hS10.to k1) hn0 hn1) rfl ?_
      rintro v2 w2 ⟨k2, h2⟩
      exact r_nil (ob_of k2 h2)
    refine ob_step (e := qE All (mkRat (m * n.sign) n.natAbs)) ?_ ?_
    · intro x w1 k1 hd
      refine r_guard_run rfl rfl ?_
      refine r_call (zratio_c (a := m) (b := n) (hS10.to k1) hd.2.2.1 hd.1 (zl_i64 hm0 hm1 (by omega)) (zl_i64 hn0 hn1 (by omega)) hn) rfl ?_
      rintro v2 w2 ⟨k2, h2⟩
      exact r_nil (ob_of k2 h2)
    refine ob_step (e := Ent.eq (.bool true)) ?_ ?_
    · intro x w1 k1 hd
      refine r_guard_run rfl rfl ?_
      refine r_call (is_l (hS10.to k1) (ht10.to k1) (h8.to k1) hd.1 (rl_mk hm0 hm1 hn0 hn1 hn (by omega)) (rl_mk hm0 hm1 hn0 hn1 hn (by omega))) rfl ?_
      rintro v2 w2 ⟨rfl, k2⟩
      exact r_nil (ob_eqv (by rw [tst_true rfl]) k2)
    refine ob_step (e := Ent.eq (.bool true)) ?_ ?_
    · intro x w1 k1 hd
      refine r_pick_true rfl rfl ?_
      exact r_nil ob_eq
    apply ob_step
    · intro x w1 k1 hd
      refine r_move (by conv => (lhs; whnf)) ?_
      refine r_nil ?_
      exact ob_eq
    refine ob_step (e := Ent.eq (.bool true)) ?_ ?_
    · intro x w1 k1 hd
      refine r_guard_run rfl rfl ?_
      refine r_call (awake_c (ht10.to k1)) rfl ?_
      rintro v2 w2 ⟨rfl, k2⟩
      exact r_nil (ob_eq_to k2)
    refine ob_step (e := Ent.eq (.bool true)) ?_ ?_
    · intro x w1 k1 hd
      refine r_pick_true rfl rfl ?_
      exact r_nil ob_eq
    refine ob_nil (ob_end ?_)
    intro x w11 k11 _
    repeat (first | refine r_assign (by conv => (lhs; whnf)) ?_ | refine r_nil ?_ | refine q_then ?_ | refine wp_ret ?_)
    exact end_tmp rfl (by conv => (lhs; whnf)) ⟨rfl, k.trans k11⟩
end Go.Proofs.YtpmnjjmngogkkaaGreatDoor
