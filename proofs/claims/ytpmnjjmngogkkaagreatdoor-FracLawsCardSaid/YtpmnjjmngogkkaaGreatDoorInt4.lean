/- Integers: quotients with rests, greatest divisors. -/
import Derived.Test.YtpmnjjmngogkkaaGreatDoorInt3
import Derived.Test.YtpmnjjmngogkkaaGreatDoorDrawR
set_option linter.unusedVariables false
namespace Go.Proofs.YtpmnjjmngogkkaaGreatDoor
open Go Go.RowKit

/-- What the program reckons of magnitudes. -/
def qAbs (a b : Int) : Nat := if a < 0 ∧ 0 < a.natAbs % b.natAbs then a.natAbs / b.natAbs + 1 else a.natAbs / b.natAbs
def rAbs (a b : Int) : Nat := if a < 0 ∧ 0 < a.natAbs % b.natAbs then b.natAbs - a.natAbs % b.natAbs else a.natAbs % b.natAbs
theorem edm_pos {a b : Int} (hb : 0 < b) : a / b = (if a < 0 then -(qAbs a b : Int) else (qAbs a b : Int)) ∧ a % b = (rAbs a b : Int) := by
  obtain ⟨m, rfl⟩ := Int.eq_ofNat_of_zero_le (Int.le_of_lt hb)
  have hm : 0 < m := by omega
  have hd := Nat.div_add_mod a.natAbs m
  have hl := Nat.mod_lt a.natAbs hm
  have hdi : (m : Int) * ((a.natAbs / m : Nat) : Int) + ((a.natAbs % m : Nat) : Int) = (a.natAbs : Int) := by
    rw [← Int.natCast_mul, ← Int.natCast_add, hd]
  rw [Int.ediv_emod_unique hb]
  unfold qAbs rAbs
  rw [Int.natAbs_natCast]
  by_cases h1 : a < 0
  · rw [if_pos h1]
    by_cases h2 : 0 < a.natAbs % m
    · rw [if_pos ⟨h1, h2⟩, if_pos ⟨h1, h2⟩]
      have e : (m : Int) * -(((a.natAbs / m + 1 : Nat)) : Int) = -((m : Int) * ((a.natAbs / m : Nat) : Int)) - m := by
        rw [Int.mul_neg, Int.natCast_add, Int.mul_add]
        simp
        omega
      refine ⟨?_, by omega, by omega⟩
      rw [e]
      omega
    · rw [if_neg (fun h => h2 h.2), if_neg (fun h => h2 h.2)]
      refine ⟨?_, by omega, by omega⟩
      rw [Int.mul_neg]
      omega
  · rw [if_neg h1, if_neg (fun h => h1 h.1), if_neg (fun h => h1 h.1)]
    refine ⟨by omega, by omega, by omega⟩
theorem edm_abs {a b : Int} (hb : b ≠ 0) : (a / b).natAbs = qAbs a b ∧ (a / b < 0 ↔ (¬ (a < 0 ↔ b < 0)) ∧ 0 < qAbs a b) ∧ a % b = (rAbs a b : Int) := by
  by_cases h0 : 0 < b
  · obtain ⟨h1, h2⟩ := edm_pos (a := a) h0
    rw [h1, h2]
    refine ⟨by split <;> omega, ?_, rfl⟩
    split
    · constructor
      · intro h; exact ⟨fun x => by omega, by omega⟩
      · rintro ⟨_, h⟩; omega
    · constructor
      · intro h; omega
      · rintro ⟨h, _⟩; exact absurd ⟨fun x => by omega, fun x => by omega⟩ h
  · obtain ⟨h1, h2⟩ := edm_pos (a := a) (b := -b) (by omega)
    have e1 : qAbs a (-b) = qAbs a b := by unfold qAbs; rw [Int.natAbs_neg]
    have e2 : rAbs a (-b) = rAbs a b := by unfold rAbs; rw [Int.natAbs_neg]
    rw [e1] at h1
    rw [e2, Int.emod_neg] at h2
    rw [Int.ediv_neg] at h1
    have h3 : a / b = (if a < 0 then (qAbs a b : Int) else -(qAbs a b : Int)) := by split at h1 <;> simp_all <;> omega
    rw [h3, h2]
    refine ⟨by split <;> omega, ?_, rfl⟩
    split
    · constructor
      · intro h; omega
      · rintro ⟨h, _⟩; exact absurd ⟨fun x => by omega, fun x => by omega⟩ h
    · constructor
      · intro h; exact ⟨fun x => by omega, by omega⟩
      · rintro ⟨_, h⟩; omega

theorem Row.apart {S : Nat → Prop} {T T' : TypeId} {s n b : Nat} {w : World} {v : Value} {cs ds : List Value} (h : Row S T s w v n cs) (hb : Blk w b T' ds) (hT : T' ≠ T) : Row (fun k => S k ∧ k ≠ b) T s w v n cs := by
  refine ⟨h.1, ?_⟩
  rcases h.2 with h2 | ⟨b', off, cap, arr, fr, hv, h1, h2, hs, hg, h3, h4⟩
  · exact .inl h2
  · refine .inr ⟨b', off, cap, arr, fr, hv, h1, h2, ⟨hs, fun e => ?_⟩, hg, h3, h4⟩
    subst e
    unfold Blk at hb
    rw [hg] at hb
    simp at hb
    exact hT hb.2.1.symm
theorem signed0_c {S : Nat → Prop} {w : World} {vm : Value} {n : Nat} (hm : NatV S 127 .u32 w vm n) :
    Gives Tryz.prog 86 [.bool false, vm] w fun v' w' => Ext w w' ∧ IntV S 127 .u32 w' v' (n : Int) := by
  have h := signed_c (p := False) (n : Int) hm (Int.natAbs_natCast n) ⟨fun h => by omega, fun h => h.1.elim⟩
  rwa [tst_false fun h => h] at h
theorem iover_c {S : Nat → Prop} {w : World} {va vb : Value} {a b : Int} (hS : Up S w) (ha : IntV S 127 .u32 w va a) (hb : IntV S 127 .u32 w vb b) (hla : zl a ≤ 1099511626000) (hlb : zl b ≤ 1099511626000) (hb0 : b ≠ 0) :
    Gives Tryz.prog 101 [va, vb] w fun v' w' => ∃ vq vr, v' = .tuple #[vq, vr] ∧ Ext w w' ∧ IntV S 127 .u32 w' vq (a / b) ∧ IntV S 127 .u32 w' vr (a % b) := by
  obtain ⟨ma, rfl, ha⟩ := ha
  obtain ⟨mb, rfl, hb⟩ := hb
  obtain ⟨hq1, hq2, hq3⟩ := edm_abs (a := a) hb0
  have hq1' := hq1
  unfold zl at hla hlb
  refine gives_of Tryz.func101 rfl rfl rfl ?_
  repeat (first | refine wp_seq_region ?_ | refine wp_region ?_)
  refine r_box (cs := [.bool (tst (a < 0)), ma]) (by conv => (lhs; whnf)) rfl ?_
  intro w1 ga k1 hga hgsa
  skip
  refine r_box (cs := [.bool (tst (b < 0)), mb]) (by conv => (lhs; whnf)) rfl ?_
  intro w2 gb k2 hgb hgsb
  skip
  refine r_alloc (cs := [.bool false, .slice none 0 0]) rfl ?_
  intro w3 g k3 hg hgs
  skip
  refine r_alloc (cs := [.bool false, .slice none 0 0]) rfl ?_
  intro w4 g2 k4 hg2 hgs2
  replace hga := hga.to ((k2.trans k3).trans k4)
  replace hgb := hgb.to (k3.trans k4)
  have hgl := hg.lt
  replace hg := hg.to k4
  have k := ((k1.trans k2).trans k3).trans k4
  have hs := (k1.trans k2).size
  have hs3 := ((k1.trans k2).trans k3).size
  replace ha := ha.to k
  replace hb := hb.to k
  replace hS := hS.to k
  clear k1 k2 k3 k4
  repeat (first | refine r_load_blk rfl hga rfl ?_ | refine r_load_blk rfl hgb rfl ?_ | refine wp_seq_region ?_ | refine wp_region ?_ | refine r_nil ?_ | refine r_field rfl ?_)
  refine r_call (over_c hS ha hb (by omega) (by omega) (by omega)) rfl ?_
  rintro v5 w5 ⟨vq, vr, rfl, k5, hvq, hvr⟩
  replace hga := hga.to k5
  replace hgb := hgb.to k5
  replace hg := hg.to k5
  replace hg2 := hg2.to k5
  replace k := k.trans k5
  replace hb := hb.to k5
  replace hS := hS.to k5
  have hlq : dl (a.natAbs / b.natAbs) ≤ 1099511626000 := Nat.le_trans (dl_mono (Nat.div_le_self ..)) hla
  have hlr : a.natAbs % b.natAbs < b.natAbs := Nat.mod_lt _ (by omega)
  have hlr' := @dl_eq_zero (a.natAbs % b.natAbs)
  clear k5
  repeat (first | refine wp_seq_region ?_ | refine wp_seq_seq ?_ | refine wp_region ?_ | refine r_move (by conv => (lhs; whnf)) ?_ | refine r_assign (by conv => (lhs; whnf)) ?_ | refine r_nil ?_ | refine r_extract rfl rfl ?_ | refine r_field rfl ?_)
  refine r_mid [(17, 22)] (fun ρ w' => ρ 22 = .bool (tst (a < 0 ∧ 0 < a.natAbs % b.natAbs)) ∧ w' = w5) ?_ ?_
  · repeat (first | refine r_load_blk rfl hga rfl ?_ | refine r_move (by conv => (lhs; whnf)) ?_)
    refine r_guard_split rfl rfl ?_ ?_ <;> intro hneg
    · repeat (first | refine r_move (by conv => (lhs; whnf)) ?_ | refine r_nil ?_ | refine q_then ?_ | refine r_len (by conv => (lhs; whnf)) (by assumption) ?_ | refine r_guard_run rfl rfl ?_ | refine r_pick_true rfl (by conv => (lhs; whnf)) ?_ | refine r_gtr rfl rfl ?_)
      refine ⟨by (repeat (first | refine agree_upd rfl ?_ | exact agree_over | refine agree_sub rfl ?_ | exact agree_refl)), congrArg Value.bool (tst_congr ?_), rfl⟩
      unfold dl at hlr'
      exact ⟨fun h => ⟨hneg, by omega⟩, fun h => by omega⟩
    · repeat (first | refine r_nil ?_ | refine q_then ?_ | refine r_guard_skip rfl rfl rfl ?_ | refine r_pick_false rfl (by conv => (lhs; whnf)) ?_)
      refine ⟨by (repeat (first | refine agree_upd rfl ?_ | exact agree_over | refine agree_sub rfl ?_ | exact agree_refl)), ?_, rfl⟩
      show Value.bool false = _
      rw [tst_false fun h => hneg h.1]
  rintro u w6 ⟨h22, rfl⟩
  refine wp_learn 22 h22 ?_
  skip
  first | refine wp_seq_cond ?_ | refine wp_thenB ?_ | refine wp_thenBB ?_ | skip
  refine wp_join [(6, 7), (23, 29)] (fun ρ w' => ∃ vq vr, ρ 6 = vq ∧ ρ 7 = vr ∧ Ext w6 w' ∧ NatV S 127 .u32 w' vq (qAbs a b) ∧ NatV S 127 .u32 w' vr (rAbs a b)) rfl ?_ ?_ ?_
  · intro hr
    refine wp_drawn 7 (by kernel_rfl) (by kernel_rfl) ?_
    apply ob_step
    · intro x w1 k1 hd
      refine r_move (by conv => (lhs; whnf)) ?_
      refine r_nil ?_
      exact ob_eq
    refine ob_step (e := natE S 127 .u32 1) ?_ ?_
    · intro x w1 k1 hd
      refine r_call (one_c (hS.to k1)) rfl ?_
      rintro v2 w2 ⟨k2, h2⟩
      exact r_nil (ob_of k2 h2)
    refine ob_step (e := natE S 127 .u32 (a.natAbs / b.natAbs + 1)) ?_ ?_
    · intro x w1 k1 hd
      refine r_call (plus_c (hS.to k1) (hvq.to k1) hd.1 (by omega) (Nat.le_trans (dl_le (k := 1) (by decide)) (by decide))) rfl ?_
      rintro v2 w2 ⟨k2, h2⟩
      exact r_nil (ob_of k2 h2)
    apply ob_step
    · intro x w1 k1 hd
      refine r_field rfl ?_
      refine r_nil ?_
      exact ob_eq
    apply ob_step
    · intro x w1 k1 hd
      refine r_load_blk rfl (hgb.to k1) rfl ?_
      refine r_nil ?_
      exact ob_eq
    apply ob_step
    · intro x w1 k1 hd
      refine r_move (by conv => (lhs; whnf)) ?_
      refine r_nil ?_
      exact ob_eq
    refine ob_step (e := natE S 127 .u32 (b.natAbs - a.natAbs % b.natAbs)) ?_ ?_
    · intro x w1 k1 hd
      refine r_call (less_c (hS.to k1) (hb.to k1) (hvr.to k1) (by omega) (by omega)) rfl ?_
      rintro v2 w2 ⟨k2, h2⟩
      exact r_nil (ob_of k2 h2)
    refine ob_nil (ob_end ?_)
    intro x w7 k7 hall
    repeat (first | refine r_assign (by conv => (lhs; whnf)) ?_ | refine r_nil ?_ | refine q_then ?_)
    refine ⟨by (repeat (first | refine agree_upd rfl ?_ | exact agree_over | refine agree_sub rfl ?_ | exact agree_refl)), _, _, rfl, rfl, k7, ?_, ?_⟩
    · unfold qAbs
      rw [if_pos hr]
      exact hall.2.2.2.2.1
    · unfold rAbs
      rw [if_pos hr]
      exact hall.1
  · intro hr
    repeat (first | refine q_then ?_ | refine wp_skip ?_)
    refine ⟨by (repeat (first | refine agree_upd rfl ?_ | exact agree_over | refine agree_sub rfl ?_ | exact agree_refl)), _, _, rfl, rfl, .refl, ?_, ?_⟩
    · unfold qAbs
      rw [if_neg hr]
      exact hvq
    · unfold rAbs
      rw [if_neg hr]
      exact hvr
  rintro u2 w7 ⟨vq2, vr2, h6, h7, k7, hq6, hq7⟩
  refine wp_learn 6 h6 ?_
  refine wp_learn 7 h7 ?_
  replace hga := hga.to k7
  replace hgb := hgb.to k7
  replace hg := hg.to k7
  replace hg2 := hg2.to k7
  replace k := k.trans k7
  replace hS := hS.to k7
  repeat (first | refine r_load_blk rfl hga rfl ?_ | refine r_load_blk rfl hgb rfl ?_ | refine wp_seq_region ?_ | refine wp_region ?_ | refine r_move (by conv => (lhs; whnf)) ?_ | refine r_neqB rfl rfl ?_ | refine r_field rfl ?_)
  refine r_call (signed_c (a / b) hq6 hq1 hq2) rfl ?_
  rintro v8 w8 ⟨k8, m8, rfl, h8⟩
  repeat (first | refine r_move (by conv => (lhs; whnf)) ?_)
  refine r_call (signed0_c (hq7.to k8)) rfl ?_
  rintro v9 w9 ⟨k9, m9, rfl, h9⟩
  skip
  refine r_store2 rfl rfl (hg.to (k8.trans k9)) rfl h8.one ?_
  intro w10 k10 hg10
  refine r_store2 rfl rfl ((hg2.to (k8.trans k9)).wr k10 (by omega)) rfl h9.one ?_
  intro w11 k11 hg11
  repeat (first | refine r_nil ?_ | refine q_then ?_ | refine wp_ret ?_)
  refine end2 rfl (resV_agg (by conv => (lhs; whnf)) (hg10.wr k11 (by omega)) rfl) (resV_agg (by conv => (lhs; whnf)) hg11 rfl) ⟨_, _, rfl, ?_, ?_, ?_⟩
  · exact ((((k.trans k8).trans k9).past k10 (by omega))).past k11 (by omega)
  · exact ⟨m8, rfl, ((h8.to k9).wrT k10 (hg.to (k8.trans k9)) (by decide)).wrT k11 ((hg2.to (k8.trans k9)).wr k10 (by omega)) (by decide)⟩
  · rw [hq3]
    exact ⟨m9, rfl, (h9.wrT k10 (hg.to (k8.trans k9)) (by decide)).wrT k11 ((hg2.to (k8.trans k9)).wr k10 (by omega)) (by decide)⟩
theorem igcd_c {S : Nat → Prop} {w : World} {va vb : Value} {a b : Int} (hS : Up S w) (ha : IntV S 127 .u32 w va a) (hb : IntV S 127 .u32 w vb b) (hla : zl a ≤ 1099511626000) (hlb : zl b ≤ 1099511626000) :
    Gives Tryz.prog 32 [va, vb] w fun v' w' => Ext w w' ∧ IntV S 127 .u32 w' v' (Int.gcd a b : Int) := by
  obtain ⟨ma, rfl, ha⟩ := ha
  obtain ⟨mb, rfl, hb⟩ := hb
  unfold zl at hla hlb
  have hlg : dl (Nat.gcd a.natAbs b.natAbs) ≤ 1099511626000 := by
    by_cases h0 : a = 0
    · subst h0; rw [Int.natAbs_zero, Nat.gcd_zero_left]; exact hlb
    · exact Nat.le_trans (dl_mono (Nat.gcd_le_left _ (by omega))) hla
  refine gives_of Tryz.func32 rfl rfl rfl ?_
  repeat (first | refine wp_seq_region ?_ | refine wp_region ?_)
  refine r_box (cs := [.bool (tst (a < 0)), ma]) (by conv => (lhs; whnf)) rfl ?_
  intro w1 ga k1 hga hgsa
  skip
  refine r_box (cs := [.bool (tst (b < 0)), mb]) (by conv => (lhs; whnf)) rfl ?_
  intro w2 gb k2 hgb hgsb
  skip
  refine r_alloc (cs := [.bool false, .slice none 0 0]) rfl ?_
  intro w3 g k3 hg hgs
  replace hga := hga.to (k2.trans k3)
  replace hgb := hgb.to k3
  have k := (k1.trans k2).trans k3
  have hs := (k1.trans k2).size
  replace ha := ha.to k
  replace hb := hb.to k
  replace hS := hS.to k
  clear k1 k2 k3
  repeat (first | refine r_load_blk rfl hga rfl ?_ | refine r_load_blk rfl hgb rfl ?_ | refine wp_seq_region ?_ | refine wp_region ?_ | refine r_nil ?_ | refine r_field rfl ?_)
  refine r_call (gcd_c hS ha hb (by omega) (by omega)) rfl ?_
  rintro v4 w4 ⟨k4, h4⟩
  refine r_call (clone_c (hS.to k4) h4 (by unfold dl at hlg; omega)) rfl ?_
  rintro v5 w5 ⟨k5, h5⟩
  refine r_build2 (by conv => (lhs; whnf)) (by conv => (lhs; whnf)) rfl h5.one ?_
  refine r_store2 rfl (by conv => (lhs; whnf)) (hg.to (k4.trans k5)) rfl h5.one ?_
  intro w6 k6 hg6
  repeat (first | refine r_nil ?_ | refine q_then ?_ | refine wp_ret ?_)
  refine end1 rfl (resV_agg (by conv => (lhs; whnf)) hg6 rfl) ⟨Keeps.past ((k.trans k4).trans k5) k6 (by omega), v5, ?_, h5.wrT k6 (hg.to (k4.trans k5)) (by decide)⟩
  rw [tst_false (by omega)]

/-- Quotient and rest, or that there is none. -/
theorem idiv0_c {S : Nat → Prop} {w : World} {va vb : Value} {a : Int} (hS : Up S w) (ha : IntV S 127 .u32 w va a) (hb : IntV S 127 .u32 w vb 0) :
    Gives Tryz.prog 34 [va, vb] w fun v' w' => ∃ vq vr, v' = .tuple #[vq, vr, .int .i64 6] ∧ Ext w w' ∧ IntV S 127 .u32 w' vq 0 ∧ IntV S 127 .u32 w' vr 0 := by
  obtain ⟨ma, rfl, ha⟩ := ha
  obtain ⟨mb, rfl, hb⟩ := hb
  refine gives_of Tryz.func34 rfl rfl rfl ?_
  repeat (first | refine wp_seq_region ?_ | refine wp_region ?_)
  refine r_box (cs := [.bool (tst (a < 0)), ma]) (by conv => (lhs; whnf)) rfl ?_
  intro w1 ga k1 hga hgsa
  skip
  refine r_box (cs := [.bool (tst ((0 : Int) < 0)), mb]) (by conv => (lhs; whnf)) rfl ?_
  intro w2 gb k2 hgb hgsb
  skip
  refine r_alloc (cs := [.bool false, .slice none 0 0]) rfl ?_
  intro w3 g k3 hg hgs
  skip
  refine r_alloc (cs := [.bool false, .slice none 0 0]) rfl ?_
  intro w4 g2 k4 hg2 hgs2
  replace hgb := hgb.to (k3.trans k4)
  have hgl := hg.lt
  replace hg := hg.to k4
  have k := ((k1.trans k2).trans k3).trans k4
  have hs := (k1.trans k2).size
  have hs3 := ((k1.trans k2).trans k3).size
  replace hb := hb.to k
  clear k1 k2 k3 k4
  repeat (first | refine r_load_all rfl hgb rfl ?_ | refine wp_seq_region ?_ | refine wp_seq_seq ?_ | refine wp_region ?_ | refine r_assign (by conv => (lhs; whnf)) ?_ | refine r_nil ?_)
  refine r_call (sign_c ⟨mb, rfl, hb⟩) rfl ?_
  rintro v5 w5 ⟨rfl, k5⟩
  replace hg := hg.to k5
  replace hg2 := hg2.to k5
  repeat (first | refine r_nil ?_ | refine q_then ?_ | refine r_eql rfl rfl ?_)
  refine wp_cond_yes rfl rfl ?_
  repeat (first | refine wp_seq_region ?_ | refine wp_region ?_)
  refine r_build0 (cs := [.bool false, .slice none 0 0]) rfl ?_
  refine r_build0 (cs := [.bool false, .slice none 0 0]) rfl ?_
  refine r_store2 rfl (by conv => (lhs; whnf)) hg rfl rfl ?_
  intro w10 k10 hg10
  refine r_store2 rfl (by conv => (lhs; whnf)) (hg2.wr k10 (by omega)) rfl rfl ?_
  intro w11 k11 hg11
  repeat (first | refine r_assign (by conv => (lhs; whnf)) ?_ | refine r_nil ?_ | refine q_then ?_ | refine wp_ret ?_ | refine q_then_ret ?_)
  refine end3 rfl (resV_agg (by conv => (lhs; whnf)) (hg10.wr k11 (by omega)) rfl) (resV_agg (by conv => (lhs; whnf)) hg11 rfl) (resV_tmp (by conv => (lhs; whnf))) ⟨_, _, rfl, ?_, ?_, ?_⟩
  · exact ((k.trans k5).past k10 (by omega)).past k11 (by omega)
  · exact ⟨_, by rw [tst_false (by omega)], .nil⟩
  · exact ⟨_, by rw [tst_false (by omega)], .nil⟩
theorem idiv_c {S : Nat → Prop} {w : World} {va vb : Value} {a b : Int} (hS : Up S w) (ha : IntV S 127 .u32 w va a) (hb : IntV S 127 .u32 w vb b) (hla : zl a ≤ 1099511626000) (hlb : zl b ≤ 1099511626000) (hb0 : b ≠ 0) :
    Gives Tryz.prog 34 [va, vb] w fun v' w' => ∃ vq vr, v' = .tuple #[vq, vr, .int .i64 0] ∧ Ext w w' ∧ IntV S 127 .u32 w' vq (a / b) ∧ IntV S 127 .u32 w' vr (a % b) := by
  obtain ⟨ma, rfl, ha⟩ := ha
  obtain ⟨mb, rfl, hb⟩ := hb
  refine gives_of Tryz.func34 rfl rfl rfl ?_
  repeat (first | refine wp_seq_region ?_ | refine wp_region ?_)
  refine r_box (cs := [.bool (tst (a < 0)), ma]) (by conv => (lhs; whnf)) rfl ?_
  intro w1 ga k1 hga hgsa
  skip
  refine r_box (cs := [.bool (tst (b < 0)), mb]) (by conv => (lhs; whnf)) rfl ?_
  intro w2 gb k2 hgb hgsb
  skip
  refine r_alloc (cs := [.bool false, .slice none 0 0]) rfl ?_
  intro w3 g k3 hg hgs
  skip
  refine r_alloc (cs := [.bool false, .slice none 0 0]) rfl ?_
  intro w4 g2 k4 hg2 hgs2
  replace hga := hga.to ((k2.trans k3).trans k4)
  replace hgb := hgb.to (k3.trans k4)
  have hgl := hg.lt
  replace hg := hg.to k4
  have k := ((k1.trans k2).trans k3).trans k4
  have hs := (k1.trans k2).size
  have hs3 := ((k1.trans k2).trans k3).size
  replace ha := ha.to k
  replace hb := hb.to k
  replace hS := hS.to k
  clear k1 k2 k3 k4
  repeat (first | refine r_load_all rfl hgb rfl ?_ | refine wp_seq_region ?_ | refine wp_seq_seq ?_ | refine wp_region ?_ | refine r_assign (by conv => (lhs; whnf)) ?_ | refine r_nil ?_)
  refine r_call (sign_c ⟨mb, rfl, hb⟩) rfl ?_
  rintro v5 w5 ⟨rfl, k5⟩
  replace hg := hg.to k5
  replace hg2 := hg2.to k5
  replace hga := hga.to k5
  replace hgb := hgb.to k5
  repeat (first | refine r_nil ?_ | refine q_then ?_ | refine r_eql rfl rfl ?_)
  refine wp_cond_no rfl (fun h => hb0 (Int.sign_eq_zero_iff_zero.1 h)) ?_
  repeat (first | refine r_load_all rfl hgb rfl ?_ | refine r_load_all rfl hga rfl ?_ | refine wp_seq_region ?_ | refine wp_region ?_ | refine wp_skip ?_)
  refine r_call (iover_c (hS.to k5) ⟨ma, rfl, ha.to k5⟩ ⟨mb, rfl, hb.to k5⟩ hla hlb hb0) rfl ?_
  rintro v6 w6 ⟨vq, vr, rfl, k6, ⟨mq, rfl, hq⟩, ⟨mr, rfl, hr⟩⟩
  repeat (first | refine r_move (by conv => (lhs; whnf)) ?_ | refine r_extract rfl rfl ?_)
  refine r_alloc (cs := [.bool false, .slice none 0 0]) rfl ?_
  intro w7 gq k7 hgq hgsq
  skip
  refine r_alloc (cs := [.bool false, .slice none 0 0]) rfl ?_
  intro w8 gr k8 hgr hgsr
  have hgq7 := hgq.lt
  replace hgq := hgq.to k8
  replace hq := hq.to (k7.trans k8)
  replace hr := hr.to (k7.trans k8)
  have hgs5 := hg2.lt
  have hgs6 := k6.size
  have hgql := k7.size
  replace hg := hg.to ((k6.trans k7).trans k8)
  replace hg2 := hg2.to ((k6.trans k7).trans k8)
  refine r_store2 rfl rfl hgq rfl hq.one ?_
  intro w9 k9 hgq9
  refine r_store2 rfl rfl (hgr.wr k9 (by omega)) rfl hr.one ?_
  intro w10 k10 hgr10
  have hgrb := hgr.wr k9 (by omega)
  have hgqf := hgq9.wr k10 (by omega)
  replace hq := (hq.wrT k9 hgq (by decide)).wrT k10 hgrb (by decide)
  replace hr := (hr.wrT k9 hgq (by decide)).wrT k10 hgrb (by decide)
  replace hg := (hg.wr k9 (by omega)).wr k10 (by omega)
  replace hg2 := (hg2.wr k9 (by omega)).wr k10 (by omega)
  have kk : Ext w w10 := ((((((k.trans k5).trans k6).trans k7).trans k8).past k9 (by omega))).past k10 (by omega)
  have hS10 : Up S w10 := fun i hi => hS i (by have := k5.size; have := k6.size; have := k7.size; have := k8.size; have := k9.size; have := k10.size; omega)
  have hlr : (dg (a % b).natAbs).length ≤ 1099511627776 := by
    have h1 : dl (a % b).natAbs ≤ dl b.natAbs := dl_mono (by have := Int.emod_nonneg a hb0; have := Int.emod_lt_of_neg (a := a) (b := b); have := @Int.emod_lt_of_pos a b; rcases Int.lt_or_lt_of_ne hb0 with h | h <;> simp_all <;> omega)
    unfold zl at hlb
    unfold dl at h1 hlb
    omega
  repeat (first | refine wp_seq_region ?_ | refine r_nil ?_)
  have hS' : Up (fun k => S k ∧ k ≠ g) w10 := fun i hi => ⟨hS10 i hi, by have := hg.lt; omega⟩
  refine wp_drawnR (R := OneW g 26 [.bool false, .slice none 0 0] [.bool (tst (a / b < 0)), mq]) 8 OneW.trans OneW.drew (by kernel_rfl) (by kernel_rfl) ?_
  apply ob_stepR
  · intro x w1 k1 hd
    refine r_load_all rfl (hgqf.wr k1.1 (by omega)) rfl ?_
    refine r_nil ?_
    exact ob_eqR OneW.refl
  apply ob_stepR
  · intro x w1 k1 hd
    refine r_field rfl ?_
    refine r_nil ?_
    exact ob_eqR OneW.refl
  apply ob_stepR
  · intro x w1 k1 hd
    refine r_load_blk rfl (hgr10.wr k1.1 (by omega)) rfl ?_
    refine r_nil ?_
    exact ob_eqR OneW.refl
  apply ob_stepR
  · intro x w1 k1 hd
    refine r_field rfl ?_
    refine r_nil ?_
    exact ob_eqR OneW.refl
  apply ob_stepR
  · intro x w1 k1 hd
    refine r_load_blk rfl (hgr10.wr k1.1 (by omega)) rfl ?_
    refine r_nil ?_
    exact ob_eqR OneW.refl
  have hr' := hr.apart hg (by decide)
  refine ob_stepR (e := EntR.of (fun v w => NatV (fun k => S k ∧ k ≠ g) 127 .u32 w v (a % b).natAbs) (fun v w w' h k => h.keep (k.1.mono fun i hi => hi.2))) ?_ ?_
  · intro x w1 k1 hd
    refine r_call (clone_c (hS'.to k1.1) (hr'.keep (k1.1.mono fun i hi => hi.2)) hlr) rfl ?_
    rintro v2 w2 ⟨k2, h2⟩
    exact r_nil (ob_ofR (OneW.of k2) h2)
  refine ob_stepR (e := EntR.of (fun v w => IntV (fun k => S k ∧ k ≠ g) 127 .u32 w v (a % b)) (fun v w w' h k => h.keep (k.1.mono fun i hi => hi.2))) ?_ ?_
  · intro x w1 k1 hd
    have h1 : NatV (fun k => S k ∧ k ≠ g) 127 .u32 w1 (x 5) (a % b).natAbs := hd.1
    refine r_build2 rfl rfl rfl h1.one ?_
    exact r_nil (ob_ofR OneW.refl ⟨_, rfl, h1⟩)
  refine ob_stepR (e := EntR.of (fun v w => Blk w g 26 [.bool (tst (a / b < 0)), mq]) (fun v w w' h k => k.2.2 h)) ?_ ?_
  · intro x w1 k1 hd
    rcases k1.2.1 (.inl hg) with hgx | hgx
    · refine r_store2 rfl rfl hgx rfl hq.one ?_
      intro w12 k12 hg12
      exact r_nil (ob_doneR (OneW.wrote k12 hg12) hg12)
    · refine r_store2 rfl rfl hgx rfl hq.one ?_
      intro w12 k12 hg12
      exact r_nil (ob_doneR (OneW.wrote k12 hg12) hg12)
  refine ob_nilR (ob_endR ?_)
  intro x w11 k11 hall
  obtain ⟨m11, hv11, h11⟩ := hall.2.1
  have hg12 : Blk w11 g 26 [.bool (tst (a / b < 0)), mq] := hall.1
  refine r_store2 rfl hv11 (hg2.wr k11.1 (by omega)) rfl h11.one ?_
  intro w13 k13 hg13
  repeat (first | refine r_assign (by conv => (lhs; whnf)) ?_ | refine r_nil ?_ | refine q_then ?_ | refine wp_ret ?_)
  refine end3 rfl (resV_agg (by conv => (lhs; whnf)) (hg12.wr k13 (by omega)) rfl) (resV_agg (by conv => (lhs; whnf)) hg13 rfl) (resV_tmp (by conv => (lhs; whnf))) ⟨_, _, rfl, ?_, ?_, ?_⟩
  · exact (kk.past k11.1 (by omega)).past k13 (by omega)
  · exact ⟨mq, rfl, (hq.wrT k11.1 hg (by decide)).wrT k13 (hg2.wr k11.1 (by omega)) (by decide)⟩
  · exact ⟨m11, rfl, (h11.mono fun i _ hi => hi.1).wrT k13 (hg2.wr k11.1 (by omega)) (by decide)⟩
end Go.Proofs.YtpmnjjmngogkkaaGreatDoor
