import Derived.Test.YtpmnjjmngogkkaaGreatDoorNat
import Derived.Test.YtpmnjjmngogkkaaGreatDoorMag
set_option linter.unusedVariables false
namespace Go.Proofs.YtpmnjjmngogkkaaGreatDoor
open Go Go.RowKit

theorem magOf_c {S : Nat → Prop} {w : World} {m : Nat} (hS : Up S w) (hm : m ≤ 18446744073709551615) :
    Gives Tryz.prog 82 [.int .u64 m] w fun v' w' => Ext w w' ∧ NatV S 127 .u32 w' v' m := by
  have hl3 : dl m ≤ 3 := dl_le (by omega)
  refine gives_of Tryz.func82 rfl rfl rfl ?_
  repeat (first | refine wp_seq_region ?_ | refine wp_region ?_ | refine r_assign (by conv => (lhs; whnf)) ?_ | refine r_nil ?_ | refine q_then ?_)
  try refine wp_seq_block ?_
  refine wp_for ((0, 0) :: [(0, 0), (3, 13)]) (fun k ρ w' => ∃ l v, ρ 0 = .int .u64 k ∧ k ≤ m ∧ ρ 3 = v ∧ l ++ dg k = dg m ∧ Ext w w' ∧ Own w.heap.size 127 1 w' v l.length (l.map fun d : Nat => .int .u32 d)) m
    ⟨[], _, rfl, Nat.le_refl _, rfl, rfl, .refl, own_nil⟩ ?_
  rintro k u w1 ⟨l, v, h0, hk, h3, hd, k1, ho⟩
  refine wp_learn 0 h0 (wp_learn 3 h3 ?_)
  clear h0 h3
  repeat (first | refine wp_seq_region ?_ | refine wp_seq_seq ?_ | refine wp_region ?_ | refine r_move (by conv => (lhs; whnf)) ?_ | refine r_nil ?_ | refine q_then ?_ | refine r_gtr rfl rfl ?_)
  try refine wp_seq_cond ?_
  refine wp_cond_dec rfl ?_ ?_ <;> intro hc
  · have hkl := congrArg List.length hd
    rw [List.length_append] at hkl
    have hdk := dg_pos (show k ≠ 0 by omega)
    have hdl : (dg m).length = dl m := rfl
    repeat (first | refine wp_seq_bregion ?_ | refine wp_region ?_ | refine r_move (by conv => (lhs; whnf)) ?_ | refine wp_block_region ?_ | refine wp_skip ?_ | refine r_conv rfl (wrap_u32 (by omega) (by omega)) ?_ | refine r_remP rfl rfl (by omega) (by omega) ?_)
    refine r_lit1 (by conv => (lhs; whnf)) rfl ?_
    intro w2 g k2 hb hg
    refine r_append1 (by conv => (lhs; whnf)) (own_to ho k2) rfl hb (by omega) rfl (by simp [Value.oneCell']) (by unfold maxLen; omega) (by omega) (Nat.le_trans k1.size k2.size) ?_
    intro v3 w3 ho3 k3
    repeat (first | refine wp_region ?_ | refine r_move (by conv => (lhs; whnf)) ?_ | refine r_assign (by conv => (lhs; whnf)) ?_ | refine r_nil ?_ | refine q_then ?_ | refine r_quoU rfl rfl (by omega) (by omega) (by omega) ?_)
    refine ⟨by (repeat (first | refine agree_upd rfl ?_ | exact agree_over | refine agree_sub rfl ?_ | exact agree_refl)), k / 1000000000, by omega, l ++ [k % 1000000000], v3, congrArg (Value.int .u64) (by omega), by omega, rfl, ?_, ?_, ?_⟩
    · rw [← hd, hdk, List.append_assoc]; rfl
    · exact Keeps.later (k1.trans k2) k3 fun i hi _ e => by have := (ho.lt i e.symm).1; omega
    · simpa using ho3
  · repeat (first | refine wp_seq_region ?_ | refine wp_region ?_ | refine r_move (by conv => (lhs; whnf)) ?_ | refine r_assign (by conv => (lhs; whnf)) ?_ | refine r_nil ?_ | refine q_then ?_ | refine wp_ret ?_ | refine wp_exit ?_)
    refine end_tmp rfl (by conv => (lhs; whnf)) ⟨k1, ?_⟩
    obtain rfl : k = 0 := by omega
    rw [dg_zero, List.append_nil] at hd
    subst hd
    exact Row.of_own ho hS
end Go.Proofs.YtpmnjjmngogkkaaGreatDoor
