/- The reference's integers: making them, signs, order, sums, products. -/
import Derived.Test.YtpmnjjmngogkkaaGreatDoorRef4
import Derived.Test.YtpmnjjmngogkkaaGreatDoorStr
set_option linter.unusedVariables false
set_option linter.unusedSimpArgs false
namespace Go.Proofs.YtpmnjjmngogkkaaGreatDoor
open Go Go.RowKit

/-- v is the reference's integer z. -/
abbrev ZV (S : Nat → Prop) (w : World) (v : Value) (z : Int) : Prop := IntV S 3 .i64 w v z
abbrev zE (S : Nat → Prop) (z : Int) : Ent := intE S 3 .i64 z
abbrev nE (S : Nat → Prop) (n : Nat) : Ent := natE S 3 .i64 n

theorem zInt_c {S : Nat → Prop} {w : World} {vm : Value} {n : Nat} {p : Prop} (z : Int) (hm : NatV S 3 .i64 w vm n) (ha : z.natAbs = n) (hp : z < 0 ↔ p ∧ 0 < n) :
    Gives Tryz.prog 83 [.bool (tst p), vm] w fun v' w' => Ext w w' ∧ ZV S w' v' z := by
  subst ha
  refine gives_of Tryz.func83 rfl rfl rfl ?_
  repeat (first | refine wp_seq_region ?_ | refine wp_region ?_)
  refine r_alloc (cs := [.bool false, .slice none 0 0]) rfl ?_
  intro w1 g k1 hg hgs
  have hm0 := hm
  replace hm := hm.to k1
  have hdl : 0 < (dg z.natAbs).length ↔ 0 < z.natAbs := by
    have := @dl_eq_zero z.natAbs
    unfold dl at this
    omega
  repeat (first | refine wp_seq_region ?_ | refine wp_region ?_ | refine r_move (by conv => (lhs; whnf)) ?_ | refine r_nil ?_)
  refine r_guard_split rfl rfl ?_ ?_ <;> intro hc
  · repeat (first | refine r_move (by conv => (lhs; whnf)) ?_ | refine r_len (by conv => (lhs; whnf)) (by assumption) ?_ | refine r_guard_run rfl rfl ?_ | refine r_pick_true rfl (by conv => (lhs; whnf)) ?_ | refine r_gtr rfl rfl ?_)
    refine r_build2 (by conv => (lhs; whnf)) (by conv => (lhs; whnf)) rfl hm.one ?_
    refine r_store2 rfl (by conv => (lhs; whnf)) hg rfl hm.one ?_
    intro w2 k2 hg2
    repeat (first | refine r_nil ?_ | refine q_then ?_ | refine wp_ret ?_)
    refine end1 rfl (resV_agg (by conv => (lhs; whnf)) hg2 rfl) ⟨?_, vm, ?_, ?_⟩
    · exact k1.past k2 hgs
    · rw [tst_congr (show (0 : Int) < ((dg z.natAbs).length : Nat) ↔ z < 0 by rw [hp, ← hdl]; exact ⟨fun h => ⟨hc, by omega⟩, fun h => by omega⟩)]
    · exact hm0.past k1 k2 hgs
  · repeat (first | refine r_move (by conv => (lhs; whnf)) ?_ | refine r_guard_skip rfl rfl rfl ?_ | refine r_pick_false rfl (by conv => (lhs; whnf)) ?_)
    refine r_build2 (by conv => (lhs; whnf)) (by conv => (lhs; whnf)) rfl hm.one ?_
    refine r_store2 rfl (by conv => (lhs; whnf)) hg rfl hm.one ?_
    intro w2 k2 hg2
    repeat (first | refine r_nil ?_ | refine q_then ?_ | refine wp_ret ?_)
    refine end1 rfl (resV_agg (by conv => (lhs; whnf)) hg2 rfl) ⟨?_, vm, ?_, ?_⟩
    · exact k1.past k2 hgs
    · rw [tst_false (show ¬ z < 0 from fun h => hc (hp.1 h).1)]
    · exact hm0.past k1 k2 hgs
theorem zInt0_c {S : Nat → Prop} {w : World} {vm : Value} {n : Nat} (hm : NatV S 3 .i64 w vm n) :
    Gives Tryz.prog 83 [.bool false, vm] w fun v' w' => Ext w w' ∧ ZV S w' v' (n : Int) := by
  have h := zInt_c (p := False) (n : Int) hm (Int.natAbs_natCast n) ⟨fun h => by omega, fun h => h.1.elim⟩
  rwa [tst_false fun h => h] at h
theorem zsign_c {S : Nat → Prop} {w : World} {v : Value} {z : Int} (h : ZV S w v z) :
    Gives Tryz.prog 35 [v] w fun v' w' => v' = .int .i64 z.sign ∧ Ext w w' := by
  obtain ⟨m, rfl, hm⟩ := h
  refine gives_of Tryz.func35 rfl rfl rfl ?_
  repeat (first | refine wp_seq_region ?_ | refine wp_region ?_)
  refine r_box (cs := [.bool (tst (z < 0)), m]) (by conv => (lhs; whnf)) rfl ?_
  intro w1 g k1 hg hgs
  replace hm := hm.to k1
  have hl := @len_pos z.natAbs
  repeat (first | refine r_load_blk rfl hg rfl ?_ | refine wp_seq_region ?_ | refine wp_seq_seq ?_ | refine wp_region ?_ | refine r_assign (by conv => (lhs; whnf)) ?_ | refine r_nil ?_ | refine q_then ?_ | refine r_len (by conv => (lhs; whnf)) (by assumption) ?_ | refine r_eql rfl rfl ?_ | refine r_field rfl ?_)
  try refine wp_seq_cond ?_
  refine wp_cond_dec rfl ?_ ?_ <;> intro hc
  · repeat (first | refine wp_seq_region ?_ | refine wp_region ?_ | refine r_assign (by conv => (lhs; whnf)) ?_ | refine r_nil ?_ | refine q_then ?_ | refine wp_ret ?_ | refine q_then_ret ?_)
    exact end_tmp rfl (by conv => (lhs; whnf)) ⟨congrArg (Value.int .i64) (by rw [show z = 0 by omega]; rfl), k1⟩
  · repeat (first | refine r_load_blk rfl hg rfl ?_ | refine wp_seq_region ?_ | refine wp_seq_seq ?_ | refine wp_region ?_ | refine r_nil ?_ | refine q_then ?_ | refine wp_skip ?_ | refine r_field rfl ?_)
    try refine wp_seq_cond ?_
    refine wp_cond_dec rfl ?_ ?_ <;> intro hc2
    · repeat (first | refine wp_seq_region ?_ | refine wp_region ?_ | refine r_assign (by conv => (lhs; whnf)) ?_ | refine r_nil ?_ | refine q_then ?_ | refine wp_ret ?_ | refine q_then_ret ?_)
      exact end_tmp rfl (by conv => (lhs; whnf)) ⟨congrArg (Value.int .i64) (by rw [Int.sign_eq_neg_one_of_neg hc2]), k1⟩
    · repeat (first | refine wp_seq_region ?_ | refine wp_region ?_ | refine r_assign (by conv => (lhs; whnf)) ?_ | refine r_nil ?_ | refine q_then ?_ | refine wp_ret ?_ | refine wp_skip ?_)
      exact end_tmp rfl (by conv => (lhs; whnf)) ⟨congrArg (Value.int .i64) (by rw [Int.sign_eq_one_of_pos (by omega)]), k1⟩
theorem zneg_c {S : Nat → Prop} {w : World} {v : Value} {z : Int} (h : ZV S w v z) :
    Gives Tryz.prog 61 [v] w fun v' w' => Ext w w' ∧ ZV S w' v' (-z) := by
  obtain ⟨m, rfl, hm⟩ := h
  refine gives_of Tryz.func61 rfl rfl rfl ?_
  repeat (first | refine wp_seq_region ?_ | refine wp_region ?_)
  refine r_box (cs := [.bool (tst (z < 0)), m]) (by conv => (lhs; whnf)) rfl ?_
  intro w1 g k1 hg hgs
  skip
  refine r_alloc (cs := [.bool false, .slice none 0 0]) rfl ?_
  intro w2 g2 k2 hg2 hgs2
  replace hg := hg.to k2
  have k := k1.trans k2
  have hm2 := hm.to k
  repeat (first | refine r_load_blk rfl hg rfl ?_ | refine wp_seq_region ?_ | refine wp_region ?_ | refine r_nil ?_ | refine r_notB rfl ?_ | refine r_field rfl ?_)
  refine r_call (zInt_c (-z) hm2 (by omega) (by omega)) rfl ?_
  rintro v3 w3 ⟨k3, m3, rfl, h3⟩
  replace hg2 := hg2.to k3
  have hs := k1.size
  skip
  refine r_store2 rfl (by conv => (lhs; whnf)) hg2 rfl h3.one ?_
  intro w4 k4 hg4
  repeat (first | refine r_nil ?_ | refine q_then ?_ | refine wp_ret ?_)
  refine end1 rfl (resV_agg (by conv => (lhs; whnf)) hg4 rfl) ⟨(k.trans k3).past k4 (by omega), m3, rfl, h3.wrT k4 hg2 (by decide)⟩
theorem zadd_c {S : Nat → Prop} {w : World} {va vb : Value} {a b : Int} (hS : Up S w) (ha : ZV S w va a) (hb : ZV S w vb b) (hla : zl a ≤ 16000000000000) (hlb : zl b ≤ 16000000000000) :
    Gives Tryz.prog 27 [va, vb] w fun v' w' => Ext w w' ∧ ZV S w' v' (a + b) := by
  unfold zl at hla hlb
  have ha0 := ha
  have hb0 := hb
  obtain ⟨ma, rfl, hma⟩ := ha
  obtain ⟨mb, rfl, hmb⟩ := hb
  refine gives_of Tryz.func27 rfl rfl rfl ?_
  repeat (first | refine wp_seq_region ?_ | refine wp_region ?_)
  refine r_box (cs := [.bool (tst (a < 0)), ma]) (by conv => (lhs; whnf)) rfl ?_
  intro w1 ga k1 hga hgsa
  skip
  refine r_box (cs := [.bool (tst (b < 0)), mb]) (by conv => (lhs; whnf)) rfl ?_
  intro w2 gb k2 hgb hgsb
  replace hga := hga.to k2
  have k := k1.trans k2
  clear k1 k2
  skip
  have hsz := k.size
  refine r_alloc (cs := [.bool false, .slice none 0 0]) rfl ?_
  intro w3 g k3 hg hgs
  replace hga := hga.to k3
  replace hgb := hgb.to k3
  replace k := k.trans k3
  clear k3
  replace ha0 := ha0.to k
  replace hb0 := hb0.to k
  replace hma := hma.to k
  replace hmb := hmb.to k
  replace hS := hS.to k
  repeat (first | refine wp_seq_region ?_ | refine wp_seq_seq ?_ | refine wp_region ?_ | refine r_nil ?_ | refine r_field rfl ?_)
  repeat (first | refine r_load_blk rfl hga rfl ?_ | refine r_load_blk rfl hgb rfl ?_ | refine r_nil ?_ | refine q_then ?_ | refine r_eqlB rfl rfl ?_ | refine r_field rfl ?_)
  try refine wp_seq_cond ?_
  refine wp_cond_dec rfl ?_ ?_ <;> intro he
  · repeat (first | refine wp_seq_region ?_)
    refine wp_drawn 8 (by kernel_rfl) (by kernel_rfl) ?_
    apply ob_step
    · intro x w1 k1 hd
      refine r_field rfl ?_
      refine r_nil ?_
      exact ob_eq
    apply ob_step
    · intro x w1 k1 hd
      refine r_load_blk rfl (hga.to k1) rfl ?_
      refine r_nil ?_
      exact ob_eq
    apply ob_step
    · intro x w1 k1 hd
      refine r_field rfl ?_
      refine r_nil ?_
      exact ob_eq
    apply ob_step
    · intro x w1 k1 hd
      refine r_load_blk rfl (hga.to k1) rfl ?_
      refine r_nil ?_
      exact ob_eq
    apply ob_step
    · intro x w1 k1 hd
      refine r_field rfl ?_
      refine r_nil ?_
      exact ob_eq
    apply ob_step
    · intro x w1 k1 hd
      refine r_load_blk rfl (hgb.to k1) rfl ?_
      refine r_nil ?_
      exact ob_eq
    refine ob_step (e := nE S (a.natAbs + b.natAbs)) ?_ ?_
    · intro x w1 k1 hd
      refine r_call (addN_c (hS.to k1) (hma.to k1) (hmb.to k1) (by omega) (by omega)) rfl ?_
      rintro v2 w2 ⟨k2, h2⟩
      exact r_nil (ob_of k2 h2)
    refine ob_step (e := zE S (a + b)) ?_ ?_
    · intro x w1 k1 hd
      refine r_call (zInt_c (a + b) hd.1 (by omega) (by omega)) rfl ?_
      rintro v2 w2 ⟨k2, h2⟩
      exact r_nil (ob_of k2 h2)
    refine ob_nil (ob_end ?_)
    intro x w5 k5 hall
    obtain ⟨m5, hv5, h5⟩ := hall.1
    refine r_store2 rfl hv5 (hg.to k5) rfl h5.one ?_
    intro w6 k6 hg6
    repeat (first | refine r_nil ?_ | refine q_then ?_ | refine wp_ret ?_ | refine q_then_ret ?_)
    refine end1 rfl (resV_agg (by conv => (lhs; whnf)) hg6 rfl) ⟨Keeps.past (k.trans k5) k6 (by omega), m5, rfl, h5.wrT k6 (hg.to k5) (by decide)⟩
  · repeat (first | refine r_load_blk rfl hga rfl ?_ | refine r_load_blk rfl hgb rfl ?_ | refine wp_seq_region ?_ | refine wp_seq_seq ?_ | refine wp_region ?_ | refine wp_skip ?_ | refine r_field rfl ?_)
    refine r_call (cmpN_c hma hmb) rfl ?_
    rintro v4 w4 ⟨k4, c, rfl, hc⟩
    replace hga := hga.to k4
    replace hgb := hgb.to k4
    replace k := k.trans k4
    replace hma := hma.to k4
    replace hmb := hmb.to k4
    replace hg := hg.to k4
    replace hS := hS.to k4
    clear k4
    repeat (first | refine r_nil ?_ | refine q_then ?_ | refine r_geq rfl rfl ?_)
    try refine wp_seq_cond ?_
    refine wp_cond_dec rfl ?_ ?_ <;> intro hcc
    · have hge : b.natAbs ≤ a.natAbs := by have := hc.1; omega
      repeat (first | refine wp_seq_region ?_)
      refine wp_drawn 8 (by kernel_rfl) (by kernel_rfl) ?_
      apply ob_step
      · intro x w1 k1 hd
        refine r_field rfl ?_
        refine r_nil ?_
        exact ob_eq
      apply ob_step
      · intro x w1 k1 hd
        refine r_load_blk rfl (hga.to k1) rfl ?_
        refine r_nil ?_
        exact ob_eq
      apply ob_step
      · intro x w1 k1 hd
        refine r_field rfl ?_
        refine r_nil ?_
        exact ob_eq
      apply ob_step
      · intro x w1 k1 hd
        refine r_load_blk rfl (hga.to k1) rfl ?_
        refine r_nil ?_
        exact ob_eq
      apply ob_step
      · intro x w1 k1 hd
        refine r_field rfl ?_
        refine r_nil ?_
        exact ob_eq
      apply ob_step
      · intro x w1 k1 hd
        refine r_load_blk rfl (hgb.to k1) rfl ?_
        refine r_nil ?_
        exact ob_eq
      refine ob_step (e := nE S (a.natAbs - b.natAbs)) ?_ ?_
      · intro x w1 k1 hd
        refine r_call (subN_c (hS.to k1) (hma.to k1) (hmb.to k1) (by omega) hge) rfl ?_
        rintro v2 w2 ⟨k2, h2⟩
        exact r_nil (ob_of k2 h2)
      refine ob_step (e := zE S (a + b)) ?_ ?_
      · intro x w1 k1 hd
        refine r_call (zInt_c (a + b) hd.1 (sum_abs he hge) (sum_sign he hge)) rfl ?_
        rintro v2 w2 ⟨k2, h2⟩
        exact r_nil (ob_of k2 h2)
      refine ob_nil (ob_end ?_)
      intro x w5 k5 hall
      obtain ⟨m5, hv5, h5⟩ := hall.1
      refine r_store2 rfl hv5 (hg.to k5) rfl h5.one ?_
      intro w6 k6 hg6
      repeat (first | refine r_nil ?_ | refine q_then ?_ | refine wp_ret ?_ | refine q_then_ret ?_)
      refine end1 rfl (resV_agg (by conv => (lhs; whnf)) hg6 rfl) ⟨Keeps.past (k.trans k5) k6 (by omega), m5, rfl, h5.wrT k6 (hg.to k5) (by decide)⟩
    · have hge : a.natAbs ≤ b.natAbs := by have := hc.1; omega
      have he2 : ¬ (b < 0 ↔ a < 0) := fun h => he h.symm
      repeat (first | refine wp_seq_region ?_ | refine wp_skip ?_)
      refine wp_drawn 8 (by kernel_rfl) (by kernel_rfl) ?_
      apply ob_step
      · intro x w1 k1 hd
        refine r_field rfl ?_
        refine r_nil ?_
        exact ob_eq
      apply ob_step
      · intro x w1 k1 hd
        refine r_load_blk rfl (hgb.to k1) rfl ?_
        refine r_nil ?_
        exact ob_eq
      apply ob_step
      · intro x w1 k1 hd
        refine r_field rfl ?_
        refine r_nil ?_
        exact ob_eq
      apply ob_step
      · intro x w1 k1 hd
        refine r_load_blk rfl (hgb.to k1) rfl ?_
        refine r_nil ?_
        exact ob_eq
      apply ob_step
      · intro x w1 k1 hd
        refine r_field rfl ?_
        refine r_nil ?_
        exact ob_eq
      apply ob_step
      · intro x w1 k1 hd
        refine r_load_blk rfl (hga.to k1) rfl ?_
        refine r_nil ?_
        exact ob_eq
      refine ob_step (e := nE S (b.natAbs - a.natAbs)) ?_ ?_
      · intro x w1 k1 hd
        refine r_call (subN_c (hS.to k1) (hmb.to k1) (hma.to k1) (by omega) hge) rfl ?_
        rintro v2 w2 ⟨k2, h2⟩
        exact r_nil (ob_of k2 h2)
      refine ob_step (e := zE S (a + b)) ?_ ?_
      · intro x w1 k1 hd
        refine r_call (zInt_c (a + b) hd.1 (by rw [Int.add_comm]; exact sum_abs he2 hge) (by rw [Int.add_comm]; exact sum_sign he2 hge)) rfl ?_
        rintro v2 w2 ⟨k2, h2⟩
        exact r_nil (ob_of k2 h2)
      refine ob_nil (ob_end ?_)
      intro x w5 k5 hall
      obtain ⟨m5, hv5, h5⟩ := hall.1
      refine r_store2 rfl hv5 (hg.to k5) rfl h5.one ?_
      intro w6 k6 hg6
      repeat (first | refine r_nil ?_ | refine q_then ?_ | refine wp_ret ?_)
      refine end1 rfl (resV_agg (by conv => (lhs; whnf)) hg6 rfl) ⟨Keeps.past (k.trans k5) k6 (by omega), m5, rfl, h5.wrT k6 (hg.to k5) (by decide)⟩
theorem zsub_c {S : Nat → Prop} {w : World} {va vb : Value} {a b : Int} (hS : Up S w) (ha : ZV S w va a) (hb : ZV S w vb b) (hla : zl a ≤ 16000000000000) (hlb : zl b ≤ 16000000000000) :
    Gives Tryz.prog 28 [va, vb] w fun v' w' => Ext w w' ∧ ZV S w' v' (a - b) := by
  rw [show a - b = a + -b from Int.sub_eq_add_neg ..]
  have ha0 := ha
  have hb0 := hb
  obtain ⟨ma, rfl, hma⟩ := ha
  obtain ⟨mb, rfl, hmb⟩ := hb
  refine gives_of Tryz.func28 rfl rfl rfl ?_
  repeat (first | refine wp_seq_region ?_ | refine wp_region ?_)
  refine r_box (cs := [.bool (tst (a < 0)), ma]) (by conv => (lhs; whnf)) rfl ?_
  intro w1 ga k1 hga hgsa
  skip
  refine r_box (cs := [.bool (tst (b < 0)), mb]) (by conv => (lhs; whnf)) rfl ?_
  intro w2 gb k2 hgb hgsb
  replace hga := hga.to k2
  have k := k1.trans k2
  clear k1 k2
  skip
  have hsz := k.size
  refine r_alloc (cs := [.bool false, .slice none 0 0]) rfl ?_
  intro w3 g k3 hg hgs
  replace hga := hga.to k3
  replace hgb := hgb.to k3
  replace k := k.trans k3
  clear k3
  replace ha0 := ha0.to k
  replace hb0 := hb0.to k
  replace hma := hma.to k
  replace hmb := hmb.to k
  replace hS := hS.to k
  repeat (first | refine wp_seq_region ?_ | refine r_nil ?_)
  refine wp_drawn 4 (by kernel_rfl) (by kernel_rfl) ?_
  apply ob_step
  · intro x w1 k1 hd
    refine r_load_all rfl (hga.to k1) rfl ?_
    refine r_nil ?_
    exact ob_eq
  apply ob_step
  · intro x w1 k1 hd
    refine r_load_all rfl (hgb.to k1) rfl ?_
    refine r_nil ?_
    exact ob_eq
  refine ob_step (e := zE S (-b)) ?_ ?_
  · intro x w1 k1 hd
    refine r_call (zneg_c ⟨mb, rfl, hmb.to k1⟩) rfl ?_
    rintro v2 w2 ⟨k2, h2⟩
    exact r_nil (ob_of k2 h2)
  refine ob_step (e := zE S (a + -b)) ?_ ?_
  · intro x w1 k1 hd
    refine r_call (zadd_c (hS.to k1) ⟨ma, rfl, hma.to k1⟩ hd.1 hla (by unfold zl; rw [Int.natAbs_neg]; exact hlb)) rfl ?_
    rintro v2 w2 ⟨k2, h2⟩
    exact r_nil (ob_of k2 h2)
  refine ob_nil (ob_end ?_)
  intro x w5 k5 hall
  obtain ⟨m5, hv5, h5⟩ := hall.1
  refine r_store2 rfl hv5 (hg.to k5) rfl h5.one ?_
  intro w6 k6 hg6
  repeat (first | refine r_nil ?_ | refine q_then ?_ | refine wp_ret ?_)
  refine end1 rfl (resV_agg (by conv => (lhs; whnf)) hg6 rfl) ⟨Keeps.past (k.trans k5) k6 (by omega), m5, rfl, h5.wrT k6 (hg.to k5) (by decide)⟩
theorem zmul_c {S : Nat → Prop} {w : World} {va vb : Value} {a b : Int} (hS : Up S w) (ha : ZV S w va a) (hb : ZV S w vb b) (hla : zl a ≤ 8000000000000) (hlb : zl b ≤ 8000000000000) :
    Gives Tryz.prog 29 [va, vb] w fun v' w' => Ext w w' ∧ ZV S w' v' (a * b) := by
  unfold zl at hla hlb
  have ha0 := ha
  have hb0 := hb
  obtain ⟨ma, rfl, hma⟩ := ha
  obtain ⟨mb, rfl, hmb⟩ := hb
  refine gives_of Tryz.func29 rfl rfl rfl ?_
  repeat (first | refine wp_seq_region ?_ | refine wp_region ?_)
  refine r_box (cs := [.bool (tst (a < 0)), ma]) (by conv => (lhs; whnf)) rfl ?_
  intro w1 ga k1 hga hgsa
  skip
  refine r_box (cs := [.bool (tst (b < 0)), mb]) (by conv => (lhs; whnf)) rfl ?_
  intro w2 gb k2 hgb hgsb
  replace hga := hga.to k2
  have k := k1.trans k2
  clear k1 k2
  skip
  have hsz := k.size
  refine r_alloc (cs := [.bool false, .slice none 0 0]) rfl ?_
  intro w3 g k3 hg hgs
  replace hga := hga.to k3
  replace hgb := hgb.to k3
  replace k := k.trans k3
  clear k3
  replace ha0 := ha0.to k
  replace hb0 := hb0.to k
  replace hma := hma.to k
  replace hmb := hmb.to k
  replace hS := hS.to k
  repeat (first | refine wp_seq_region ?_ | refine r_nil ?_)
  refine wp_drawn 11 (by kernel_rfl) (by kernel_rfl) ?_
  apply ob_step
  · intro x w1 k1 hd
    refine r_field rfl ?_
    refine r_nil ?_
    exact ob_eq
  apply ob_step
  · intro x w1 k1 hd
    refine r_load_blk rfl (hga.to k1) rfl ?_
    refine r_nil ?_
    exact ob_eq
  apply ob_step
  · intro x w1 k1 hd
    refine r_field rfl ?_
    refine r_nil ?_
    exact ob_eq
  apply ob_step
  · intro x w1 k1 hd
    refine r_load_blk rfl (hgb.to k1) rfl ?_
    refine r_nil ?_
    exact ob_eq
  apply ob_step
  · intro x w1 k1 hd
    refine r_neqB rfl rfl ?_
    refine r_nil ?_
    exact ob_eq
  apply ob_step
  · intro x w1 k1 hd
    refine r_field rfl ?_
    refine r_nil ?_
    exact ob_eq
  apply ob_step
  · intro x w1 k1 hd
    refine r_load_blk rfl (hga.to k1) rfl ?_
    refine r_nil ?_
    exact ob_eq
  apply ob_step
  · intro x w1 k1 hd
    refine r_field rfl ?_
    refine r_nil ?_
    exact ob_eq
  apply ob_step
  · intro x w1 k1 hd
    refine r_load_blk rfl (hgb.to k1) rfl ?_
    refine r_nil ?_
    exact ob_eq
  refine ob_step (e := nE S (a.natAbs * b.natAbs)) ?_ ?_
  · intro x w1 k1 hd
    refine r_call (mulN_c (hS.to k1) (hma.to k1) (hmb.to k1) (by omega) (by omega)) rfl ?_
    rintro v2 w2 ⟨k2, h2⟩
    exact r_nil (ob_of k2 h2)
  refine ob_step (e := zE S (a * b)) ?_ ?_
  · intro x w1 k1 hd
    refine r_call (zInt_c (a * b) hd.1 (Int.natAbs_mul ..) (mul_sign a b)) rfl ?_
    rintro v2 w2 ⟨k2, h2⟩
    exact r_nil (ob_of k2 h2)
  refine ob_nil (ob_end ?_)
  intro x w5 k5 hall
  obtain ⟨m5, hv5, h5⟩ := hall.1
  refine r_store2 rfl hv5 (hg.to k5) rfl h5.one ?_
  intro w6 k6 hg6
  repeat (first | refine r_nil ?_ | refine q_then ?_ | refine wp_ret ?_)
  refine end1 rfl (resV_agg (by conv => (lhs; whnf)) hg6 rfl) ⟨Keeps.past (k.trans k5) k6 (by omega), m5, rfl, h5.wrT k6 (hg.to k5) (by decide)⟩
theorem zcmp_c {S : Nat → Prop} {w : World} {va vb : Value} {a b : Int} (hS : Up S w) (ha : ZV S w va a) (hb : ZV S w vb b) (hla : zl a ≤ 16000000000000) (hlb : zl b ≤ 16000000000000) :
    Gives Tryz.prog 31 [va, vb] w fun v' w' => v' = .int .i64 (a - b).sign ∧ Ext w w' := by
  have ha0 := ha
  have hb0 := hb
  obtain ⟨ma, rfl, hma⟩ := ha
  obtain ⟨mb, rfl, hmb⟩ := hb
  refine gives_of Tryz.func31 rfl rfl rfl ?_
  repeat (first | refine wp_seq_region ?_ | refine wp_region ?_)
  refine r_box (cs := [.bool (tst (a < 0)), ma]) (by conv => (lhs; whnf)) rfl ?_
  intro w1 ga k1 hga hgsa
  skip
  refine r_box (cs := [.bool (tst (b < 0)), mb]) (by conv => (lhs; whnf)) rfl ?_
  intro w2 gb k2 hgb hgsb
  replace hga := hga.to k2
  have k := k1.trans k2
  clear k1 k2
  replace ha0 := ha0.to k
  replace hb0 := hb0.to k
  replace hma := hma.to k
  replace hmb := hmb.to k
  replace hS := hS.to k
  repeat (first | refine wp_seq_region ?_ | refine wp_region ?_ | refine r_assign (by conv => (lhs; whnf)) ?_ | refine r_nil ?_)
  repeat (first | refine r_load_all rfl hga rfl ?_ | refine r_load_all rfl hgb rfl ?_)
  refine r_call (zsub_c hS ⟨ma, rfl, hma⟩ ⟨mb, rfl, hmb⟩ hla hlb) rfl ?_
  rintro v3 w3 ⟨k3, h3⟩
  skip
  refine r_call (zsign_c h3) rfl ?_
  rintro v4 w4 ⟨rfl, k4⟩
  repeat (first | refine r_assign (by conv => (lhs; whnf)) ?_ | refine r_nil ?_ | refine q_then ?_ | refine wp_ret ?_)
  exact end_tmp rfl (by conv => (lhs; whnf)) ⟨rfl, (k.trans k3).trans k4⟩
theorem zof_c {S : Nat → Prop} {w : World} {z : Int} (hS : Up S w) (h0 : -9223372036854775808 ≤ z) (h1 : z ≤ 9223372036854775807) :
    Gives Tryz.prog 14 [.int .i64 z] w fun v' w' => Ext w w' ∧ ZV S w' v' z := by
  have hl3 : dl z.natAbs ≤ 3 := dl_le (by omega)
  refine gives_of Tryz.func14 rfl rfl rfl ?_
  repeat (first | refine wp_seq_region ?_ | refine wp_region ?_)
  refine r_alloc (cs := [.bool false, .slice none 0 0]) rfl ?_
  intro w1 g k1 hg hgs
  repeat (first | refine wp_seq_region ?_ | refine wp_region ?_ | refine r_move (by conv => (lhs; whnf)) ?_ | refine r_nil ?_)
  refine r_conv rfl rfl ?_
  repeat (first | refine wp_seq_region ?_ | refine wp_seq_seq ?_ | refine wp_region ?_ | refine r_move (by conv => (lhs; whnf)) ?_ | refine r_assign (by conv => (lhs; whnf)) ?_ | refine r_nil ?_ | refine q_then ?_ | refine r_lss rfl rfl ?_)
  first | refine wp_seq_cond ?_ | refine wp_thenB ?_ | refine wp_thenBB ?_ | skip
  refine wp_join [(9, 10), (3, 3)] (fun ρ w' => w' = w1 ∧ ρ 3 = .int .u64 ((z.natAbs : Nat) : Int)) rfl ?_ ?_ ?_
  · intro hc
    repeat (first | refine wp_region ?_ | refine r_move (by conv => (lhs; whnf)) ?_)
    refine r_arith (op := .sub) rfl rfl (Or.inr (Or.inl ⟨rfl, show IntKind.u64.wrap (0 - IntKind.u64.wrap z) = ((z.natAbs : Nat) : Int) by simp [IntKind.wrap, IntKind.signed, IntKind.bits]; omega⟩)) ?_
    repeat (first | refine r_assign (by conv => (lhs; whnf)) ?_ | refine r_nil ?_ | refine q_then ?_)
    exact ⟨by (repeat (first | refine agree_upd rfl ?_ | exact agree_over | refine agree_sub rfl ?_ | exact agree_refl | refine agree_base rfl ?_ | refine agree_base' rfl ?_)), rfl, rfl⟩
  · intro hc
    repeat (first | refine q_then ?_ | refine wp_skip ?_)
    exact ⟨by (repeat (first | refine agree_upd rfl ?_ | exact agree_over | refine agree_sub rfl ?_ | exact agree_refl | refine agree_base rfl ?_ | refine agree_base' rfl ?_)), rfl, congrArg (Value.int .u64) (by simp [IntKind.wrap, IntKind.signed, IntKind.bits]; omega)⟩
  rintro u w2 ⟨rfl, h3⟩
  refine wp_learn 3 h3 ?_
  clear h3
  repeat (first | refine wp_seq_region ?_ | refine wp_region ?_ | refine r_assign (by conv => (lhs; whnf)) ?_ | refine r_nil ?_ | refine q_then ?_)
  try refine wp_seq_block ?_
  refine wp_for ((3, 3) :: [(3, 4), (11, 20)]) (fun k ρ w' => ∃ l v, ρ 3 = .int .u64 (k : Int) ∧ k ≤ z.natAbs ∧ ρ 4 = v ∧ l ++ dg k = dg z.natAbs ∧ Ext w2 w' ∧ Own w2.heap.size 3 1 w' v l.length (l.map fun d : Nat => .int .i64 d)) z.natAbs
    ⟨[], _, rfl, Nat.le_refl _, rfl, rfl, .refl, own_nil⟩ ?_
  rintro k u w3 ⟨l, v, h3, hk, h4, hd, k3, ho⟩
  refine wp_learn 3 h3 (wp_learn 4 h4 ?_)
  clear h3 h4
  repeat (first | refine wp_seq_region ?_ | refine wp_seq_seq ?_ | refine wp_region ?_ | refine r_move (by conv => (lhs; whnf)) ?_ | refine r_nil ?_ | refine q_then ?_ | refine r_gtr rfl rfl ?_)
  try refine wp_seq_cond ?_
  refine wp_cond_dec rfl ?_ ?_ <;> intro hc
  · have hkl := congrArg List.length hd
    rw [List.length_append] at hkl
    have hdk := dg_pos (show k ≠ 0 by omega)
    have hdl : (dg z.natAbs).length = dl z.natAbs := rfl
    repeat (first | refine wp_seq_bregion ?_ | refine wp_region ?_ | refine r_move (by conv => (lhs; whnf)) ?_ | refine wp_block_region ?_ | refine wp_skip ?_ | refine r_conv rfl (wrap_i64 (by omega) (by omega)) ?_ | refine r_remP rfl rfl (by omega) (by omega) ?_)
    refine r_lit1 (by conv => (lhs; whnf)) rfl ?_
    intro w4 g4 k4 hb hg4
    refine r_append1 (by conv => (lhs; whnf)) (own_to ho k4) rfl hb (by omega) rfl (by simp [Value.oneCell']) (by unfold maxLen; omega) (by omega) (Nat.le_trans k3.size k4.size) ?_
    intro v5 w5 ho5 k5
    repeat (first | refine wp_region ?_ | refine r_move (by conv => (lhs; whnf)) ?_ | refine r_assign (by conv => (lhs; whnf)) ?_ | refine r_nil ?_ | refine q_then ?_ | refine r_quoU rfl rfl (by omega) (by omega) (by omega) ?_)
    refine ⟨by (repeat (first | refine agree_upd rfl ?_ | exact agree_over | refine agree_sub rfl ?_ | exact agree_refl)), k / 1000000000, by omega, l ++ [k % 1000000000], v5, congrArg (Value.int .u64) (by omega), by omega, rfl, ?_, ?_, ?_⟩
    · rw [← hd, hdk, List.append_assoc]; rfl
    · exact Keeps.later (k3.trans k4) k5 fun i hi _ e => by have := (ho.lt i e.symm).1; omega
    · simpa using ho5
  · repeat (first | refine wp_seq_region ?_ | refine wp_region ?_ | refine r_move (by conv => (lhs; whnf)) ?_ | refine wp_exit ?_ | refine r_lss rfl rfl ?_)
    obtain rfl : k = 0 := by omega
    rw [dg_zero, List.append_nil] at hd
    subst hd
    refine r_call (zInt_c (S := S) (n := z.natAbs) z (Row.of_own ho (hS.to k1)) rfl (by omega)) rfl ?_
    rintro v4 w4 ⟨k4, m4, rfl, h4⟩
    skip
    have hg4 := hg.to (k3.trans k4)
    refine r_store2 rfl (by conv => (lhs; whnf)) hg4 rfl h4.one ?_
    intro w5 k5 hg5
    repeat (first | refine r_nil ?_ | refine q_then ?_ | refine wp_ret ?_)
    exact end1 rfl (resV_agg (by conv => (lhs; whnf)) hg5 rfl) ⟨Keeps.past ((k1.trans k3).trans k4) k5 hgs, m4, rfl, h4.wrT k5 hg4 (by decide)⟩
end Go.Proofs.YtpmnjjmngogkkaaGreatDoor
