/- Integers: their signs, sums. -/
import Derived.Test.YtpmnjjmngogkkaaGreatDoorInt
set_option linter.unusedVariables false
namespace Go.Proofs.YtpmnjjmngogkkaaGreatDoor
open Go Go.RowKit

theorem tst_inj {p : Prop} {b : Bool} (h : tst p = b) : p ↔ b = true := by
  subst h
  exact ⟨tst_true, of_tst⟩
theorem len_pos {n : Nat} : (0 : Int) < ((dg n).length : Nat) ↔ 0 < n := by
  have := @dl_eq_zero n
  unfold dl at this
  omega
theorem sign_c {S : Nat → Prop} {w : World} {v : Value} {z : Int} (h : IntV S 127 .u32 w v z) :
    Gives Tryz.prog 36 [v] w fun v' w' => v' = .int .i64 z.sign ∧ Ext w w' := by
  obtain ⟨m, rfl, hm⟩ := h
  refine gives_of Tryz.func36 rfl rfl rfl ?_
  repeat (first | refine wp_seq_region ?_ | refine wp_region ?_)
  refine r_box (cs := [.bool (tst (z < 0)), m]) (by conv => (lhs; whnf)) rfl ?_
  intro w1 g k1 hg hgs
  replace hm := hm.to k1
  repeat (first | refine r_load_blk rfl hg rfl ?_ | refine wp_seq_region ?_ | refine wp_seq_bseq ?_ | refine wp_region ?_ | refine r_assign (by conv => (lhs; whnf)) ?_ | refine r_nil ?_ | refine q_then ?_ | refine wp_block_seq ?_ | refine r_field rfl ?_)
  try refine wp_seq_cond ?_
  refine wp_cond_dec rfl ?_ ?_ <;> intro hc
  · repeat (first | refine wp_seq_region ?_ | refine wp_region ?_ | refine r_assign (by conv => (lhs; whnf)) ?_ | refine r_nil ?_ | refine q_then ?_ | refine wp_ret ?_ | refine q_then_ret ?_ | refine q_block_ret ?_)
    exact end_tmp rfl (by conv => (lhs; whnf)) ⟨congrArg (Value.int .i64) (by rw [Int.sign_eq_neg_one_of_neg hc]), k1⟩
  · repeat (first | refine r_load_blk rfl hg rfl ?_ | refine wp_seq_region ?_ | refine wp_region ?_ | refine r_assign (by conv => (lhs; whnf)) ?_ | refine r_nil ?_ | refine q_then ?_ | refine r_len (by conv => (lhs; whnf)) (by assumption) ?_ | refine r_gtr rfl rfl ?_ | refine r_field rfl ?_)
    try refine wp_seq_cond ?_
    refine wp_cond_dec rfl ?_ ?_ <;> intro hc2
    · repeat (first | refine wp_seq_region ?_ | refine wp_region ?_ | refine r_assign (by conv => (lhs; whnf)) ?_ | refine r_nil ?_ | refine q_then ?_ | refine wp_ret ?_ | refine q_then_ret ?_ | refine q_block_ret ?_)
      exact end_tmp rfl (by conv => (lhs; whnf)) ⟨congrArg (Value.int .i64) (by rw [len_pos] at hc2; rw [Int.sign_eq_one_of_pos (by omega)]), k1⟩
    · repeat (first | refine wp_seq_region ?_ | refine wp_region ?_ | refine r_assign (by conv => (lhs; whnf)) ?_ | refine r_nil ?_ | refine q_then ?_ | refine wp_ret ?_ | refine wp_skip ?_)
      exact end_tmp rfl (by conv => (lhs; whnf)) ⟨congrArg (Value.int .i64) (by rw [len_pos] at hc2; rw [show z = 0 by omega]; rfl), k1⟩

theorem neg_c {S : Nat → Prop} {w : World} {v : Value} {z : Int} (h : IntV S 127 .u32 w v z) :
    Gives Tryz.prog 60 [v] w fun v' w' => Ext w w' ∧ IntV S 127 .u32 w' v' (-z) := by
  obtain ⟨m, rfl, hm⟩ := h
  refine gives_of Tryz.func60 rfl rfl rfl ?_
  repeat (first | refine wp_seq_region ?_ | refine wp_region ?_)
  refine r_box (cs := [.bool (tst (z < 0)), m]) (by conv => (lhs; whnf)) rfl ?_
  intro w1 g k1 hg hgs
  skip
  refine r_alloc (cs := [.bool false, .slice none 0 0]) rfl ?_
  intro w2 g2 k2 hg2 hgs2
  replace hg := hg.to k2
  have k := k1.trans k2
  have hm2 := hm.to k
  repeat (first | refine r_load_blk rfl hg rfl ?_ | refine wp_seq_region ?_ | refine wp_region ?_ | refine r_nil ?_ | refine r_notB rfl ?_ | refine r_field rfl ?_)
  refine r_call (signed_c (-z) hm2 (by omega) (by omega)) rfl ?_
  rintro v3 w3 ⟨k3, m3, rfl, h3⟩
  replace hg2 := hg2.to k3
  have hs := k1.size
  skip
  refine r_store2 rfl (by conv => (lhs; whnf)) hg2 rfl h3.one ?_
  intro w4 k4 hg4
  repeat (first | refine r_nil ?_ | refine q_then ?_ | refine wp_ret ?_)
  refine end1 rfl (resV_agg (by conv => (lhs; whnf)) hg4 rfl) ⟨(k.trans k3).past k4 (by omega), m3, rfl, h3.wrT k4 hg2 (by decide)⟩

/-- The digits of a sum come as an entry. -/
def natE (S : Nat → Prop) (T : TypeId) (k : IntKind) (n : Nat) : Ent := Ent.of (fun v w => NatV S T k w v n) fun v w w' h kk => h.to kk
def intE (S : Nat → Prop) (T : TypeId) (k : IntKind) (z : Int) : Ent := Ent.of (fun v w => IntV S T k w v z) fun v w w' h kk => h.to kk

theorem sum_sign {a b : Int} (h : ¬ (a < 0 ↔ b < 0)) (hab : b.natAbs ≤ a.natAbs) : a + b < 0 ↔ a < 0 ∧ 0 < a.natAbs - b.natAbs := by
  by_cases h1 : a < 0 <;> by_cases h2 : b < 0
  · exact absurd ⟨fun _ => h2, fun _ => h1⟩ h
  · omega
  · omega
  · exact absurd ⟨fun x => by omega, fun x => by omega⟩ h
theorem sum_abs {a b : Int} (h : ¬ (a < 0 ↔ b < 0)) (hab : b.natAbs ≤ a.natAbs) : (a + b).natAbs = a.natAbs - b.natAbs := by
  by_cases h1 : a < 0 <;> by_cases h2 : b < 0
  · exact absurd ⟨fun _ => h2, fun _ => h1⟩ h
  · omega
  · omega
  · exact absurd ⟨fun x => by omega, fun x => by omega⟩ h
theorem iplus_c {S : Nat → Prop} {w : World} {va vb : Value} {a b : Int} (hS : Up S w) (ha : IntV S 127 .u32 w va a) (hb : IntV S 127 .u32 w vb b) (hla : dl a.natAbs ≤ 1099511627000) (hlb : dl b.natAbs ≤ 1099511627000) :
    Gives Tryz.prog 90 [va, vb] w fun v' w' => Ext w w' ∧ IntV S 127 .u32 w' v' (a + b) := by
  obtain ⟨ma, rfl, ha⟩ := ha
  obtain ⟨mb, rfl, hb⟩ := hb
  refine gives_of Tryz.func90 rfl rfl rfl ?_
  repeat (first | refine wp_seq_region ?_ | refine wp_region ?_)
  refine r_box (cs := [.bool (tst (a < 0)), ma]) (by conv => (lhs; whnf)) rfl ?_
  intro w1 ga k1 hga hgsa
  skip
  refine r_box (cs := [.bool (tst (b < 0)), mb]) (by conv => (lhs; whnf)) rfl ?_
  intro w2 gb k2 hgb hgsb
  skip
  refine r_alloc (cs := [.bool false, .slice none 0 0]) rfl ?_
  intro w3 g k3 hg hgs
  replace hga := hga.to (k2.trans k3)
  replace hgb := hgb.to k3
  have k := (k1.trans k2).trans k3
  have hs := (k1.trans k2).size
  replace ha := ha.to k
  replace hb := hb.to k
  repeat (first | refine r_load_blk rfl hga rfl ?_ | refine r_load_blk rfl hgb rfl ?_ | refine wp_seq_region ?_ | refine wp_seq_seq ?_ | refine wp_region ?_ | refine r_nil ?_ | refine r_field rfl ?_)
  refine r_call (compare_c ha hb) rfl ?_
  rintro v4 w4 ⟨k4, c, rfl, hc⟩
  replace hga := hga.to k4
  replace hgb := hgb.to k4
  replace k := k.trans k4
  replace ha := ha.to k4
  replace hb := hb.to k4
  replace hg := hg.to k4
  replace hS := hS.to k
  clear k1 k2 k3 k4
  repeat (first | refine r_load_blk rfl hga rfl ?_ | refine r_load_blk rfl hgb rfl ?_ | refine wp_seq_region ?_ | refine wp_region ?_ | refine r_assign (by conv => (lhs; whnf)) ?_ | refine r_nil ?_ | refine q_then ?_ | refine wp_block_seq ?_ | refine r_eqlB rfl rfl ?_ | refine r_field rfl ?_)
  try refine wp_seq_cond ?_
  refine wp_cond_dec rfl ?_ ?_ <;> intro he
  · repeat (first | refine wp_seq_region ?_)
    refine wp_drawn 8 (by kernel_rfl) (by kernel_rfl) ?_
    apply ob_step
    · intro x w1 k1 hd
      refine r_field rfl ?_
      refine r_nil ?_
      exact ob_eq
    apply ob_step
    · intro x w1 k1 hd
      refine r_load_blk rfl (hga.to k1) rfl ?_
      refine r_nil ?_
      exact ob_eq
    apply ob_step
    · intro x w1 k1 hd
      refine r_field rfl ?_
      refine r_nil ?_
      exact ob_eq
    apply ob_step
    · intro x w1 k1 hd
      refine r_load_blk rfl (hga.to k1) rfl ?_
      refine r_nil ?_
      exact ob_eq
    apply ob_step
    · intro x w1 k1 hd
      refine r_field rfl ?_
      refine r_nil ?_
      exact ob_eq
    apply ob_step
    · intro x w1 k1 hd
      refine r_load_blk rfl (hgb.to k1) rfl ?_
      refine r_nil ?_
      exact ob_eq
    refine ob_step (e := natE S 127 .u32 (a.natAbs + b.natAbs)) ?_ ?_
    · intro x w1 k1 hd
      refine r_call (plus_c (hS.to k1) (ha.to k1) (hb.to k1) (by omega) (by omega)) rfl ?_
      rintro v2 w2 ⟨k2, h2⟩
      exact r_nil (ob_of k2 h2)
    refine ob_step (e := intE S 127 .u32 (a + b)) ?_ ?_
    · intro x w1 k1 hd
      refine r_call (signed_c (a + b) hd.1 (by omega) (by omega)) rfl ?_
      rintro v2 w2 ⟨k2, h2⟩
      exact r_nil (ob_of k2 h2)
    refine ob_nil (ob_end ?_)
    intro x w5 k5 hall
    obtain ⟨m5, hv5, h5⟩ := hall.1
    refine r_store2 rfl hv5 (hg.to k5) rfl h5.one ?_
    intro w6 k6 hg6
    repeat (first | refine r_nil ?_ | refine q_then ?_ | refine wp_ret ?_ | refine q_then_ret ?_ | refine q_block_ret ?_)
    refine end1 rfl (resV_agg (by conv => (lhs; whnf)) hg6 rfl) ⟨Keeps.past (k.trans k5) k6 (by omega), m5, rfl, h5.wrT k6 (hg.to k5) (by decide)⟩
  · repeat (first | refine wp_seq_region ?_ | refine wp_region ?_ | refine r_move (by conv => (lhs; whnf)) ?_ | refine r_assign (by conv => (lhs; whnf)) ?_ | refine r_nil ?_ | refine q_then ?_ | refine r_geq rfl rfl ?_)
    try refine wp_seq_cond ?_
    refine wp_cond_dec rfl ?_ ?_ <;> intro hcc
    · have hge : b.natAbs ≤ a.natAbs := by have := hc.1; omega
      repeat (first | refine wp_seq_region ?_)
      refine wp_drawn 8 (by kernel_rfl) (by kernel_rfl) ?_
      apply ob_step
      · intro x w1 k1 hd
        refine r_field rfl ?_
        refine r_nil ?_
        exact ob_eq
      apply ob_step
      · intro x w1 k1 hd
        refine r_load_blk rfl (hga.to k1) rfl ?_
        refine r_nil ?_
        exact ob_eq
      apply ob_step
      · intro x w1 k1 hd
        refine r_field rfl ?_
        refine r_nil ?_
        exact ob_eq
      apply ob_step
      · intro x w1 k1 hd
        refine r_load_blk rfl (hga.to k1) rfl ?_
        refine r_nil ?_
        exact ob_eq
      apply ob_step
      · intro x w1 k1 hd
        refine r_field rfl ?_
        refine r_nil ?_
        exact ob_eq
      apply ob_step
      · intro x w1 k1 hd
        refine r_load_blk rfl (hgb.to k1) rfl ?_
        refine r_nil ?_
        exact ob_eq
      refine ob_step (e := natE S 127 .u32 (a.natAbs - b.natAbs)) ?_ ?_
      · intro x w1 k1 hd
        refine r_call (less_c (hS.to k1) (ha.to k1) (hb.to k1) (by omega) hge) rfl ?_
        rintro v2 w2 ⟨k2, h2⟩
        exact r_nil (ob_of k2 h2)
      refine ob_step (e := intE S 127 .u32 (a + b)) ?_ ?_
      · intro x w1 k1 hd
        refine r_call (signed_c (a + b) hd.1 (sum_abs he hge) (sum_sign he hge)) rfl ?_
        rintro v2 w2 ⟨k2, h2⟩
        exact r_nil (ob_of k2 h2)
      refine ob_nil (ob_end ?_)
      intro x w5 k5 hall
      obtain ⟨m5, hv5, h5⟩ := hall.1
      refine r_store2 rfl hv5 (hg.to k5) rfl h5.one ?_
      intro w6 k6 hg6
      repeat (first | refine r_nil ?_ | refine q_then ?_ | refine wp_ret ?_ | refine q_then_ret ?_ | refine q_block_ret ?_)
      refine end1 rfl (resV_agg (by conv => (lhs; whnf)) hg6 rfl) ⟨Keeps.past (k.trans k5) k6 (by omega), m5, rfl, h5.wrT k6 (hg.to k5) (by decide)⟩
    · have hge : a.natAbs ≤ b.natAbs := by have := hc.1; omega
      have he2 : ¬ (b < 0 ↔ a < 0) := fun h => he h.symm
      repeat (first | refine wp_seq_region ?_ | refine wp_skip ?_)
      refine wp_drawn 8 (by kernel_rfl) (by kernel_rfl) ?_
      apply ob_step
      · intro x w1 k1 hd
        refine r_field rfl ?_
        refine r_nil ?_
        exact ob_eq
      apply ob_step
      · intro x w1 k1 hd
        refine r_load_blk rfl (hgb.to k1) rfl ?_
        refine r_nil ?_
        exact ob_eq
      apply ob_step
      · intro x w1 k1 hd
        refine r_field rfl ?_
        refine r_nil ?_
        exact ob_eq
      apply ob_step
      · intro x w1 k1 hd
        refine r_load_blk rfl (hgb.to k1) rfl ?_
        refine r_nil ?_
        exact ob_eq
      apply ob_step
      · intro x w1 k1 hd
        refine r_field rfl ?_
        refine r_nil ?_
        exact ob_eq
      apply ob_step
      · intro x w1 k1 hd
        refine r_load_blk rfl (hga.to k1) rfl ?_
        refine r_nil ?_
        exact ob_eq
      refine ob_step (e := natE S 127 .u32 (b.natAbs - a.natAbs)) ?_ ?_
      · intro x w1 k1 hd
        refine r_call (less_c (hS.to k1) (hb.to k1) (ha.to k1) (by omega) hge) rfl ?_
        rintro v2 w2 ⟨k2, h2⟩
        exact r_nil (ob_of k2 h2)
      refine ob_step (e := intE S 127 .u32 (a + b)) ?_ ?_
      · intro x w1 k1 hd
        refine r_call (signed_c (a + b) hd.1 (by rw [Int.add_comm]; exact sum_abs he2 hge) (by rw [Int.add_comm]; exact sum_sign he2 hge)) rfl ?_
        rintro v2 w2 ⟨k2, h2⟩
        exact r_nil (ob_of k2 h2)
      refine ob_nil (ob_end ?_)
      intro x w5 k5 hall
      obtain ⟨m5, hv5, h5⟩ := hall.1
      refine r_store2 rfl hv5 (hg.to k5) rfl h5.one ?_
      intro w6 k6 hg6
      repeat (first | refine r_nil ?_ | refine q_then ?_ | refine wp_ret ?_)
      refine end1 rfl (resV_agg (by conv => (lhs; whnf)) hg6 rfl) ⟨Keeps.past (k.trans k5) k6 (by omega), m5, rfl, h5.wrT k6 (hg.to k5) (by decide)⟩
end Go.Proofs.YtpmnjjmngogkkaaGreatDoor
