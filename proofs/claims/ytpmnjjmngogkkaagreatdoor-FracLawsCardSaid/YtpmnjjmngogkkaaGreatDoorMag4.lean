import Derived.Test.YtpmnjjmngogkkaaGreatDoorNat
import Derived.Test.YtpmnjjmngogkkaaGreatDoorMag3
set_option linter.unusedVariables false
namespace Go.Proofs.YtpmnjjmngogkkaaGreatDoor
open Go Go.RowKit

theorem at_c {S : Nat → Prop} {w : World} {va : Value} {a : Nat} (i : Nat) (ha : NatV S 127 .u32 w va a) :
    Gives Tryz.prog 183 [va, .int .i64 i] w fun v' w' => v' = .int .i64 ((dg a).getD i 0 : Nat) ∧ Ext w w' := by
  have la := ha.len_le
  unfold maxLen at la
  have hdl := dg_lt a i
  refine gives_of Tryz.func183 rfl rfl rfl ?_
  repeat (first | refine wp_seq_region ?_ | refine wp_seq_seq ?_ | refine wp_region ?_ | refine r_move (by conv => (lhs; whnf)) ?_ | refine r_assign (by conv => (lhs; whnf)) ?_ | refine r_nil ?_ | refine q_then ?_ | refine r_len (by conv => (lhs; whnf)) (by assumption) ?_ | refine r_lss rfl rfl ?_)
  try refine wp_seq_cond ?_
  refine wp_cond_dec rfl ?_ ?_ <;> intro hc
  · repeat (first | refine r_index1 (by conv => (lhs; whnf)) rfl rfl ha (by omega) ?_ | refine r_load_dig rfl ha (by omega) ?_ | refine wp_seq_region ?_ | refine wp_region ?_ | refine r_move (by conv => (lhs; whnf)) ?_ | refine r_assign (by conv => (lhs; whnf)) ?_ | refine r_nil ?_ | refine q_then ?_ | refine wp_ret ?_ | refine q_then_ret ?_ | refine r_conv rfl (wrap_i64 (by omega) (by omega)) ?_)
    exact end_tmp rfl (by conv => (lhs; whnf)) ⟨rfl, .refl⟩
  · repeat (first | refine wp_seq_region ?_ | refine wp_region ?_ | refine r_assign (by conv => (lhs; whnf)) ?_ | refine r_nil ?_ | refine q_then ?_ | refine wp_ret ?_ | refine wp_skip ?_)
    refine end_tmp rfl (by conv => (lhs; whnf)) ⟨congrArg (Value.int .i64) ?_, .refl⟩
    rw [List.getD_eq_getElem?_getD, List.getElem?_eq_none (by omega)]
    rfl

theorem isOne_c {S : Nat → Prop} {w : World} {va : Value} {a : Nat} (ha : NatV S 127 .u32 w va a) :
    Gives Tryz.prog 116 [va] w fun v' w' => v' = .bool (tst (a = 1)) ∧ w' = w := by
  have la := ha.len_le
  unfold maxLen at la
  refine gives_of Tryz.func116 rfl rfl rfl ?_
  repeat (first | refine wp_seq_region ?_ | refine wp_region ?_ | refine r_move (by conv => (lhs; whnf)) ?_ | refine r_assign (by conv => (lhs; whnf)) ?_ | refine r_nil ?_ | refine r_len (by conv => (lhs; whnf)) (by assumption) ?_ | refine r_eql rfl rfl ?_)
  refine r_guard_split rfl rfl ?_ ?_ <;> intro hc
  · repeat (first | refine r_index1 (i := 0) (by conv => (lhs; whnf)) rfl rfl ha (by omega) ?_ | refine r_load_dig rfl ha (by omega) ?_ | refine r_move (by conv => (lhs; whnf)) ?_ | refine r_assign (by conv => (lhs; whnf)) ?_ | refine r_nil ?_ | refine q_then ?_ | refine wp_ret ?_ | refine r_guard_run rfl rfl ?_ | refine r_pick_true rfl (by conv => (lhs; whnf)) ?_ | refine r_eql rfl rfl ?_)
    refine end_tmp rfl (by conv => (lhs; whnf)) ⟨congrArg Value.bool ?_, rfl⟩
    have h1 : dg a = [(dg a).getD 0 0] := by
      cases h : dg a with
      | nil => rw [h] at hc; simp at hc
      | cons d r =>
        rw [h] at hc
        obtain rfl : r = [] := List.eq_nil_of_length_eq_zero (by simp at hc; omega)
        rfl
    have h2 := congrArg nval h1
    rw [nval_dg] at h2
    simp only [nval, Nat.mul_zero, Nat.add_zero] at h2
    by_cases e : a = 1
    · rw [tst_true e, tst_true (by omega)]
    · rw [tst_false e, tst_false (by omega)]
  · repeat (first | refine r_assign (by conv => (lhs; whnf)) ?_ | refine r_nil ?_ | refine q_then ?_ | refine wp_ret ?_ | refine r_guard_skip rfl rfl rfl ?_ | refine r_pick_false rfl (by conv => (lhs; whnf)) ?_)
    refine end_tmp rfl (by conv => (lhs; whnf)) ⟨congrArg Value.bool ?_, rfl⟩
    rw [tst_false]
    rintro rfl
    exact hc rfl

theorem one_c {S : Nat → Prop} {w : World} (hS : Up S w) :
    Gives Tryz.prog 148 [] w fun v' w' => Ext w w' ∧ NatV S 127 .u32 w' v' 1 := by
  refine gives_of Tryz.func148 rfl rfl rfl ?_
  repeat (first | refine wp_seq_region ?_ | refine wp_region ?_ | refine r_assign (by conv => (lhs; whnf)) ?_ | refine r_nil ?_)
  refine r_lit1 (by conv => (lhs; whnf)) rfl ?_
  intro w1 g k1 hb hg
  repeat (first | refine r_assign (by conv => (lhs; whnf)) ?_ | refine r_nil ?_ | refine q_then ?_ | refine wp_ret ?_)
  refine end_tmp rfl (by conv => (lhs; whnf)) ⟨k1, ?_⟩
  have := Row.of_blk (s := 1) (n := 1) (cap := 1) hb (hS g hg) (Nat.le_refl _) (by unfold maxLen; omega) rfl
  exact this

theorem plus1_c {S : Nat → Prop} {w : World} {va vb : Value} {a b ga gb : Nat} (i : Nat) (ha : NatV S 127 .u32 w va a) (hb : NatV S 127 .u32 w vb b)
    (hga : Blk w ga 24 [va]) (hgb : Blk w gb 24 [vb]) :
    Gives Tryz.prog 182 [.int .i64 i, .pointer (some ⟨ga, 0, none⟩), .pointer (some ⟨gb, 0, none⟩)] w fun v' w' => v' = .int .i64 (((dg a).getD i 0 : Nat) + ((dg b).getD i 0 : Nat)) ∧ Ext w w' := by
  have hda := dg_lt a i
  have hdb := dg_lt b i
  refine gives_of Tryz.func182 rfl rfl rfl ?_
  repeat (first | refine wp_seq_region ?_ | refine wp_region ?_ | refine r_assign (by conv => (lhs; whnf)) ?_ | refine r_nil ?_)
  refine wp_drawn 7 (by kernel_rfl) (by kernel_rfl) ?_
  apply ob_step
  · intro x w1 k1 hd
    refine r_load_blk rfl (hga.to k1) rfl ?_
    refine r_nil ?_
    exact ob_eq
  apply ob_step
  · intro x w1 k1 hd
    refine r_move (by conv => (lhs; whnf)) ?_
    refine r_nil ?_
    exact ob_eq
  refine ob_step (e := .eq (.int .i64 ((dg a).getD i 0 : Nat))) ?_ ?_
  · intro x w1 k1 hd
    refine r_call (at_c i (ha.to k1)) rfl ?_
    rintro v2 w2 ⟨rfl, k2⟩
    exact r_nil ⟨rfl, k2, _, rfl, upd_same _ _ _, fun h => by cases h⟩
  apply ob_step
  · intro x w1 k1 hd
    refine r_load_blk rfl (hgb.to k1) rfl ?_
    refine r_nil ?_
    exact ob_eq
  apply ob_step
  · intro x w1 k1 hd
    refine r_move (by conv => (lhs; whnf)) ?_
    refine r_nil ?_
    exact ob_eq
  refine ob_step (e := .eq (.int .i64 ((dg b).getD i 0 : Nat))) ?_ ?_
  · intro x w1 k1 hd
    refine r_call (at_c i (hb.to k1)) rfl ?_
    rintro v2 w2 ⟨rfl, k2⟩
    exact r_nil ⟨rfl, k2, _, rfl, upd_same _ _ _, fun h => by cases h⟩
  apply ob_step
  · intro x w1 k1 hd
    refine r_addI rfl rfl (by omega) (by omega) ?_
    refine r_nil ?_
    exact ob_eq
  refine ob_nil (ob_end ?_)
  intro x w3 k3 _
  repeat (first | refine r_assign (by conv => (lhs; whnf)) ?_ | refine r_nil ?_ | refine q_then ?_ | refine wp_ret ?_)
  exact end_tmp rfl (by conv => (lhs; whnf)) ⟨rfl, k3⟩
end Go.Proofs.YtpmnjjmngogkkaaGreatDoor
