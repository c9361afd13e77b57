import Derived.Test.YtpmnjjmngogkkaaGreatDoorNat
import Derived.Test.YtpmnjjmngogkkaaGreatDoorMag4
set_option linter.unusedVariables false
namespace Go.Proofs.YtpmnjjmngogkkaaGreatDoor
open Go Go.RowKit

theorem less1_c {S : Nat → Prop} {w : World} {va vb : Value} {a b ga gb : Nat} (i : Nat) (ha : NatV S 127 .u32 w va a) (hb : NatV S 127 .u32 w vb b)
    (hga : Blk w ga 24 [va]) (hgb : Blk w gb 24 [vb]) :
    Gives Tryz.prog 184 [.int .i64 i, .pointer (some ⟨ga, 0, none⟩), .pointer (some ⟨gb, 0, none⟩)] w fun v' w' => v' = .int .i64 (((dg a).getD i 0 : Nat) - ((dg b).getD i 0 : Nat)) ∧ Ext w w' := by
  have hda := dg_lt a i
  have hdb := dg_lt b i
  refine gives_of Tryz.func184 rfl rfl rfl ?_
  repeat (first | refine wp_seq_region ?_ | refine wp_region ?_ | refine r_assign (by conv => (lhs; whnf)) ?_ | refine r_nil ?_)
  refine wp_drawn 7 (by kernel_rfl) (by kernel_rfl) ?_
  apply ob_step
  · intro x w1 k1 hd
    refine r_load_blk rfl (hga.to k1) rfl ?_
    refine r_nil ?_
    exact ob_eq
  apply ob_step
  · intro x w1 k1 hd
    refine r_move (by conv => (lhs; whnf)) ?_
    refine r_nil ?_
    exact ob_eq
  refine ob_step (e := .eq (.int .i64 ((dg a).getD i 0 : Nat))) ?_ ?_
  · intro x w1 k1 hd
    refine r_call (at_c i (ha.to k1)) rfl ?_
    rintro v2 w2 ⟨rfl, k2⟩
    exact r_nil ⟨rfl, k2, _, rfl, upd_same _ _ _, fun h => by cases h⟩
  apply ob_step
  · intro x w1 k1 hd
    refine r_load_blk rfl (hgb.to k1) rfl ?_
    refine r_nil ?_
    exact ob_eq
  apply ob_step
  · intro x w1 k1 hd
    refine r_move (by conv => (lhs; whnf)) ?_
    refine r_nil ?_
    exact ob_eq
  refine ob_step (e := .eq (.int .i64 ((dg b).getD i 0 : Nat))) ?_ ?_
  · intro x w1 k1 hd
    refine r_call (at_c i (hb.to k1)) rfl ?_
    rintro v2 w2 ⟨rfl, k2⟩
    exact r_nil ⟨rfl, k2, _, rfl, upd_same _ _ _, fun h => by cases h⟩
  apply ob_step
  · intro x w1 k1 hd
    refine r_subI rfl rfl (by omega) (by omega) ?_
    refine r_nil ?_
    exact ob_eq
  refine ob_nil (ob_end ?_)
  intro x w3 k3 _
  repeat (first | refine r_assign (by conv => (lhs; whnf)) ?_ | refine r_nil ?_ | refine q_then ?_ | refine wp_ret ?_)
  exact end_tmp rfl (by conv => (lhs; whnf)) ⟨rfl, k3⟩

theorem small1_c {S : Nat → Prop} {w : World} {va : Value} {a c ga gc : Nat} (i : Nat) (hi : i < dl a) (ha : NatV S 127 .u32 w va a) (hc : c ≤ 4294967295)
    (hga : Blk w ga 24 [va]) (hgc : Blk w gc 127 [.int .u32 c]) :
    Gives Tryz.prog 207 [.int .i64 i, .pointer (some ⟨ga, 0, none⟩), .pointer (some ⟨gc, 0, none⟩)] w fun v' w' => v' = .int .i64 (((dg a).getD i 0 : Nat) * c) ∧ Ext w w' := by
  have hda := dg_lt a i
  have hm : (((dg a).getD i 0 : Nat) : Int) * c ≤ 1000000000 * 4294967295 := Int.mul_le_mul (by omega) (by omega) (by omega) (by omega)
  have hm0 : 0 ≤ (((dg a).getD i 0 : Nat) : Int) * c := Int.mul_nonneg (by omega) (by omega)
  refine gives_of Tryz.func207 rfl rfl rfl ?_
  repeat (first | refine wp_seq_region ?_ | refine wp_region ?_ | refine r_assign (by conv => (lhs; whnf)) ?_ | refine r_nil ?_)
  refine wp_drawn 8 (by kernel_rfl) (by kernel_rfl) ?_
  apply ob_step
  · intro x w1 k1 hd
    refine r_load_blk rfl (hga.to k1) rfl ?_
    refine r_nil ?_
    exact ob_eq
  apply ob_step
  · intro x w1 k1 hd
    refine r_move (by conv => (lhs; whnf)) ?_
    refine r_nil ?_
    exact ob_eq
  apply ob_step
  · intro x w1 k1 hd
    refine r_index1 (by conv => (lhs; whnf)) rfl rfl (ha.to k1) hi ?_
    refine r_nil ?_
    exact ob_eq
  apply ob_step
  · intro x w1 k1 hd
    refine r_load_dig rfl (ha.to k1) hi ?_
    refine r_nil ?_
    exact ob_eq
  apply ob_step
  · intro x w1 k1 hd
    refine r_conv rfl (wrap_i64 (by omega) (by omega)) ?_
    refine r_nil ?_
    exact ob_eq
  apply ob_step
  · intro x w1 k1 hd
    refine r_load_blk rfl (hgc.to k1) rfl ?_
    refine r_nil ?_
    exact ob_eq
  apply ob_step
  · intro x w1 k1 hd
    refine r_conv rfl (wrap_i64 (by omega) (by omega)) ?_
    refine r_nil ?_
    exact ob_eq
  apply ob_step
  · intro x w1 k1 hd
    refine r_mulI rfl rfl (by omega) (by omega) ?_
    refine r_nil ?_
    exact ob_eq
  refine ob_nil (ob_end ?_)
  intro x w3 k3 _
  repeat (first | refine r_assign (by conv => (lhs; whnf)) ?_ | refine r_nil ?_ | refine q_then ?_ | refine wp_ret ?_)
  exact end_tmp rfl (by conv => (lhs; whnf)) ⟨rfl, k3⟩

theorem plus_c {S : Nat → Prop} {w : World} {va vb : Value} {a b : Nat} (hS : Up S w) (ha : NatV S 127 .u32 w va a) (hb : NatV S 127 .u32 w vb b) (hla : dl a ≤ 1099511627776) (hlb : dl b ≤ 1099511627776) :
    Gives Tryz.prog 144 [va, vb] w fun v' w' => Ext w w' ∧ NatV S 127 .u32 w' v' (a + b) := by
  refine gives_of Tryz.func144 rfl rfl rfl ?_
  repeat (first | refine wp_seq_region ?_ | refine wp_region ?_)
  refine r_box1 (by conv => (lhs; whnf)) ha.one ?_
  intro w1 g1 k1 h1 hg1
  skip
  refine r_box1 (by conv => (lhs; whnf)) hb.one ?_
  intro w2 g2 k2 h2 hg2
  replace h1 := h1.to k2
  have k := k1.trans k2
  replace ha := ha.to k
  replace hb := hb.to k
  repeat (first | refine r_load_blk rfl h1 rfl ?_ | refine r_load_blk rfl h2 rfl ?_ | refine wp_seq_region ?_ | refine wp_region ?_ | refine r_assign (by conv => (lhs; whnf)) ?_ | refine r_nil ?_ | refine r_len (by conv => (lhs; whnf)) (by assumption) ?_ | refine r_max rfl rfl ?_ | refine r_func ?_)
  refine r_call (carried_c (S := S) (n := max (dl a) (dl b)) (F := 182) (tot := a + b) (caps := [.pointer (some ⟨g1, 0, none⟩), .pointer (some ⟨g2, 0, none⟩)])
    (x := fun i => ((dg a).getD i 0 : Nat) + ((dg b).getD i 0 : Nat)) (hS.to k) (by omega) (fun i _ => by have := dg_lt a i; have := dg_lt b i; omega) ?_ ?_) ?_ ?_
  · rw [psum_add, psum_dg (Nat.le_max_left ..), psum_dg (Nat.le_max_right ..)]; rfl
  · intro i hi w3 k3
    have kk : Keeps (fun i => i < w2.heap.size) w2 w3 := k3
    exact plus1_c (S := fun i => S i ∧ i < w2.heap.size) i ((ha.mono fun j hj hs => ⟨hs, hj⟩).keep (kk.mono fun j hj => hj.2)) ((hb.mono fun j hj hs => ⟨hs, hj⟩).keep (kk.mono fun j hj => hj.2)) (h1.keep kk h1.lt) (h2.keep kk h2.lt)
  · exact args2 (congrArg (Value.int .i64) (by unfold dl; omega)) rfl
  · rintro v4 w4 ⟨k4, h4⟩
    repeat (first | refine r_assign (by conv => (lhs; whnf)) ?_ | refine r_nil ?_ | refine q_then ?_ | refine wp_ret ?_)
    exact end_tmp rfl (by conv => (lhs; whnf)) ⟨k.trans k4, h4⟩

theorem less_c {S : Nat → Prop} {w : World} {va vb : Value} {a b : Nat} (hS : Up S w) (ha : NatV S 127 .u32 w va a) (hb : NatV S 127 .u32 w vb b) (hla : dl a ≤ 1099511627776) (hba : b ≤ a) :
    Gives Tryz.prog 145 [va, vb] w fun v' w' => Ext w w' ∧ NatV S 127 .u32 w' v' (a - b) := by
  refine gives_of Tryz.func145 rfl rfl rfl ?_
  repeat (first | refine wp_seq_region ?_ | refine wp_region ?_)
  refine r_box1 (by conv => (lhs; whnf)) ha.one ?_
  intro w1 g1 k1 h1 hg1
  skip
  refine r_box1 (by conv => (lhs; whnf)) hb.one ?_
  intro w2 g2 k2 h2 hg2
  replace h1 := h1.to k2
  have k := k1.trans k2
  replace ha := ha.to k
  replace hb := hb.to k
  repeat (first | refine r_load_blk rfl h1 rfl ?_ | refine wp_seq_region ?_ | refine wp_region ?_ | refine r_assign (by conv => (lhs; whnf)) ?_ | refine r_nil ?_ | refine r_len (by conv => (lhs; whnf)) (by assumption) ?_ | refine r_func ?_)
  refine r_call (carried_c (S := S) (n := dl a) (F := 184) (tot := a - b) (caps := [.pointer (some ⟨g1, 0, none⟩), .pointer (some ⟨g2, 0, none⟩)])
    (x := fun i => ((dg a).getD i 0 : Nat) - ((dg b).getD i 0 : Nat)) (hS.to k) (by omega) (fun i _ => by have := dg_lt a i; have := dg_lt b i; omega) ?_ ?_) rfl ?_
  · rw [psum_sub, psum_dg (Nat.le_refl _), psum_dg (dl_mono hba)]; omega
  · intro i hi w3 k3
    have kk : Keeps (fun i => i < w2.heap.size) w2 w3 := k3
    exact less1_c (S := fun i => S i ∧ i < w2.heap.size) i ((ha.mono fun j hj hs => ⟨hs, hj⟩).keep (kk.mono fun j hj => hj.2)) ((hb.mono fun j hj hs => ⟨hs, hj⟩).keep (kk.mono fun j hj => hj.2)) (h1.keep kk h1.lt) (h2.keep kk h2.lt)
  · rintro v4 w4 ⟨k4, h4⟩
    repeat (first | refine r_assign (by conv => (lhs; whnf)) ?_ | refine r_nil ?_ | refine q_then ?_ | refine wp_ret ?_)
    exact end_tmp rfl (by conv => (lhs; whnf)) ⟨k.trans k4, h4⟩

theorem small_c {S : Nat → Prop} {w : World} {va : Value} {a c : Nat} (hS : Up S w) (ha : NatV S 127 .u32 w va a) (hla : dl a ≤ 1099511627776) (hc : c ≤ 4294967295) :
    Gives Tryz.prog 180 [va, .int .u32 c] w fun v' w' => Ext w w' ∧ NatV S 127 .u32 w' v' (a * c) := by
  refine gives_of Tryz.func180 rfl rfl rfl ?_
  repeat (first | refine wp_seq_region ?_ | refine wp_region ?_)
  refine r_box1 (by conv => (lhs; whnf)) ha.one ?_
  intro w1 g1 k1 h1 hg1
  skip
  refine r_box1 (by conv => (lhs; whnf)) rfl ?_
  intro w2 g2 k2 h2 hg2
  replace h1 := h1.to k2
  have k := k1.trans k2
  replace ha := ha.to k
  repeat (first | refine r_load_blk rfl h1 rfl ?_ | refine wp_seq_region ?_ | refine wp_region ?_ | refine r_assign (by conv => (lhs; whnf)) ?_ | refine r_nil ?_ | refine r_len (by conv => (lhs; whnf)) (by assumption) ?_ | refine r_func ?_)
  refine r_call (carried_c (S := S) (n := dl a) (F := 207) (tot := a * c) (caps := [.pointer (some ⟨g1, 0, none⟩), .pointer (some ⟨g2, 0, none⟩)])
    (x := fun i => ((dg a).getD i 0 : Nat) * (c : Int)) (hS.to k) (by omega) (fun i _ => ?_) ?_ ?_) rfl ?_
  · have hda := dg_lt a i
    have hm : (((dg a).getD i 0 : Nat) : Int) * c ≤ 1000000000 * 4294967295 := Int.mul_le_mul (by omega) (by omega) (by omega) (by omega)
    have hm0 : 0 ≤ (((dg a).getD i 0 : Nat) : Int) * c := Int.mul_nonneg (by omega) (by omega)
    omega
  · rw [psum_mul, psum_dg (Nat.le_refl _), Int.natCast_mul]
  · intro i hi w3 k3
    have kk : Keeps (fun i => i < w2.heap.size) w2 w3 := k3
    exact small1_c (S := fun i => S i ∧ i < w2.heap.size) i hi ((ha.mono fun j hj hs => ⟨hs, hj⟩).keep (kk.mono fun j hj => hj.2)) hc (h1.keep kk h1.lt) (h2.keep kk h2.lt)
  · rintro v4 w4 ⟨k4, h4⟩
    repeat (first | refine r_assign (by conv => (lhs; whnf)) ?_ | refine r_nil ?_ | refine q_then ?_ | refine wp_ret ?_)
    exact end_tmp rfl (by conv => (lhs; whnf)) ⟨k.trans k4, h4⟩
end Go.Proofs.YtpmnjjmngogkkaaGreatDoor
