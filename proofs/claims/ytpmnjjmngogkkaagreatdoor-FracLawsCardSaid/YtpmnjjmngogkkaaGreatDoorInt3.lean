/- Integers: differences, products, order. -/
import Derived.Test.YtpmnjjmngogkkaaGreatDoorInt2
import Derived.Test.YtpmnjjmngogkkaaGreatDoorOps2
import Derived.Test.YtpmnjjmngogkkaaGreatDoorMag2
set_option linter.unusedVariables false
namespace Go.Proofs.YtpmnjjmngogkkaaGreatDoor
open Go Go.RowKit

/-- Sizes of integers: no more digits than the model's arrays take, by far. -/
abbrev zl (z : Int) : Nat := dl z.natAbs
theorem zl_add (a b : Int) : zl (a + b) ≤ max (zl a) (zl b) + 1 := by
  refine Nat.le_trans (dl_mono (b := a.natAbs + b.natAbs) (by omega)) (dl_add _ _)
theorem zl_neg (a : Int) : zl (-a) = zl a := by unfold zl; rw [Int.natAbs_neg]
theorem zl_sub (a b : Int) : zl (a - b) ≤ max (zl a) (zl b) + 1 := by
  refine Nat.le_trans (dl_mono (b := a.natAbs + b.natAbs) (by omega)) (dl_add _ _)
theorem zl_mul (a b : Int) : zl (a * b) ≤ zl a + zl b := by unfold zl; rw [Int.natAbs_mul]; exact dl_mul _ _

theorem iminus_c {S : Nat → Prop} {w : World} {va vb : Value} {a b : Int} (hS : Up S w) (ha : IntV S 127 .u32 w va a) (hb : IntV S 127 .u32 w vb b) (hla : zl a ≤ 1099511627000) (hlb : zl b ≤ 1099511627000) :
    Gives Tryz.prog 92 [va, vb] w fun v' w' => Ext w w' ∧ IntV S 127 .u32 w' v' (a - b) := by
  rw [show a - b = a + -b from Int.sub_eq_add_neg ..]
  obtain ⟨ma, rfl, ha⟩ := ha
  obtain ⟨mb, rfl, hb⟩ := hb
  refine gives_of Tryz.func92 rfl rfl rfl ?_
  repeat (first | refine wp_seq_region ?_ | refine wp_region ?_)
  refine r_box (cs := [.bool (tst (a < 0)), ma]) (by conv => (lhs; whnf)) rfl ?_
  intro w1 ga k1 hga hgsa
  skip
  refine r_box (cs := [.bool (tst (b < 0)), mb]) (by conv => (lhs; whnf)) rfl ?_
  intro w2 gb k2 hgb hgsb
  skip
  refine r_alloc (cs := [.bool false, .slice none 0 0]) rfl ?_
  intro w3 g k3 hg hgs
  replace hga := hga.to (k2.trans k3)
  replace hgb := hgb.to k3
  have k := (k1.trans k2).trans k3
  have hs := (k1.trans k2).size
  have hs3 := hgb.lt
  replace ha := ha.to k
  replace hb := hb.to k
  replace hS := hS.to k
  clear k1 k2 k3
  repeat (first | refine wp_seq_region ?_ | refine r_nil ?_)
  refine wp_drawn 4 (by kernel_rfl) (by kernel_rfl) ?_
  apply ob_step
  · intro x w1 k1 hd
    refine r_load_all rfl (hga.to k1) rfl ?_
    refine r_nil ?_
    exact ob_eq
  apply ob_step
  · intro x w1 k1 hd
    refine r_load_all rfl (hgb.to k1) rfl ?_
    refine r_nil ?_
    exact ob_eq
  refine ob_step (e := intE S 127 .u32 (-b)) ?_ ?_
  · intro x w1 k1 hd
    refine r_call (neg_c ⟨mb, rfl, hb.to k1⟩) rfl ?_
    rintro v2 w2 ⟨k2, h2⟩
    exact r_nil (ob_of k2 h2)
  refine ob_step (e := intE S 127 .u32 (a + -b)) ?_ ?_
  · intro x w1 k1 hd
    refine r_call (iplus_c (hS.to k1) ⟨ma, rfl, ha.to k1⟩ hd.1 hla (by rw [Int.natAbs_neg]; exact hlb)) rfl ?_
    rintro v2 w2 ⟨k2, h2⟩
    exact r_nil (ob_of k2 h2)
  refine ob_nil (ob_end ?_)
  intro x w5 k5 hall
  obtain ⟨m5, hv5, h5⟩ := hall.1
  refine r_store2 rfl hv5 (hg.to k5) rfl h5.one ?_
  intro w6 k6 hg6
  repeat (first | refine r_nil ?_ | refine q_then ?_ | refine wp_ret ?_)
  refine end1 rfl (resV_agg (by conv => (lhs; whnf)) hg6 rfl) ⟨Keeps.past (k.trans k5) k6 (by omega), m5, rfl, h5.wrT k6 (hg.to k5) (by decide)⟩

theorem mul_sign (a b : Int) : a * b < 0 ↔ (¬ (a < 0 ↔ b < 0)) ∧ 0 < a.natAbs * b.natAbs := by
  rcases Int.lt_trichotomy a 0 with h1 | h1 | h1 <;> rcases Int.lt_trichotomy b 0 with h2 | h2 | h2
  · have := Int.mul_pos_of_neg_of_neg h1 h2
    constructor
    · intro h; omega
    · rintro ⟨h, _⟩; exact absurd ⟨fun _ => h2, fun _ => h1⟩ h
  · subst h2; simp
  · have := Int.mul_neg_of_neg_of_pos h1 h2
    have h3 : 0 < a.natAbs * b.natAbs := Nat.mul_pos (by omega) (by omega)
    exact ⟨fun _ => ⟨fun h => by have := h.1 h1; omega, h3⟩, fun _ => this⟩
  · subst h1; simp
  · subst h1; simp
  · subst h1; simp
  · have := Int.mul_neg_of_pos_of_neg h1 h2
    have h3 : 0 < a.natAbs * b.natAbs := Nat.mul_pos (by omega) (by omega)
    exact ⟨fun _ => ⟨fun h => by have := h.2 h2; omega, h3⟩, fun _ => this⟩
  · subst h2; simp
  · have := Int.mul_pos h1 h2
    constructor
    · intro h; omega
    · rintro ⟨h, _⟩; exact absurd ⟨fun x => by omega, fun x => by omega⟩ h
theorem itimes_c {S : Nat → Prop} {w : World} {va vb : Value} {a b : Int} (hS : Up S w) (ha : IntV S 127 .u32 w va a) (hb : IntV S 127 .u32 w vb b) (hla : zl a ≤ 1099511627000) (hlb : zl b ≤ 1099511627000) :
    Gives Tryz.prog 93 [va, vb] w fun v' w' => Ext w w' ∧ IntV S 127 .u32 w' v' (a * b) := by
  obtain ⟨ma, rfl, ha⟩ := ha
  obtain ⟨mb, rfl, hb⟩ := hb
  refine gives_of Tryz.func93 rfl rfl rfl ?_
  repeat (first | refine wp_seq_region ?_ | refine wp_region ?_)
  refine r_box (cs := [.bool (tst (a < 0)), ma]) (by conv => (lhs; whnf)) rfl ?_
  intro w1 ga k1 hga hgsa
  skip
  refine r_box (cs := [.bool (tst (b < 0)), mb]) (by conv => (lhs; whnf)) rfl ?_
  intro w2 gb k2 hgb hgsb
  skip
  refine r_alloc (cs := [.bool false, .slice none 0 0]) rfl ?_
  intro w3 g k3 hg hgs
  replace hga := hga.to (k2.trans k3)
  replace hgb := hgb.to k3
  have k := (k1.trans k2).trans k3
  have hs := (k1.trans k2).size
  replace ha := ha.to k
  replace hb := hb.to k
  replace hS := hS.to k
  clear k1 k2 k3
  repeat (first | refine wp_seq_region ?_ | refine r_nil ?_)
  refine wp_drawn 11 (by kernel_rfl) (by kernel_rfl) ?_
  apply ob_step
  · intro x w1 k1 hd
    refine r_field rfl ?_
    refine r_nil ?_
    exact ob_eq
  apply ob_step
  · intro x w1 k1 hd
    refine r_load_blk rfl (hga.to k1) rfl ?_
    refine r_nil ?_
    exact ob_eq
  apply ob_step
  · intro x w1 k1 hd
    refine r_field rfl ?_
    refine r_nil ?_
    exact ob_eq
  apply ob_step
  · intro x w1 k1 hd
    refine r_load_blk rfl (hgb.to k1) rfl ?_
    refine r_nil ?_
    exact ob_eq
  apply ob_step
  · intro x w1 k1 hd
    refine r_neqB rfl rfl ?_
    refine r_nil ?_
    exact ob_eq
  apply ob_step
  · intro x w1 k1 hd
    refine r_field rfl ?_
    refine r_nil ?_
    exact ob_eq
  apply ob_step
  · intro x w1 k1 hd
    refine r_load_blk rfl (hga.to k1) rfl ?_
    refine r_nil ?_
    exact ob_eq
  apply ob_step
  · intro x w1 k1 hd
    refine r_field rfl ?_
    refine r_nil ?_
    exact ob_eq
  apply ob_step
  · intro x w1 k1 hd
    refine r_load_blk rfl (hgb.to k1) rfl ?_
    refine r_nil ?_
    exact ob_eq
  refine ob_step (e := natE S 127 .u32 (a.natAbs * b.natAbs)) ?_ ?_
  · intro x w1 k1 hd
    refine r_call (times_c (hS.to k1) (ha.to k1) (hb.to k1) (by unfold zl at hla; omega) (by unfold zl at hlb; omega)) rfl ?_
    rintro v2 w2 ⟨k2, h2⟩
    exact r_nil (ob_of k2 h2)
  refine ob_step (e := intE S 127 .u32 (a * b)) ?_ ?_
  · intro x w1 k1 hd
    refine r_call (signed_c (a * b) hd.1 (Int.natAbs_mul ..) (mul_sign a b)) rfl ?_
    rintro v2 w2 ⟨k2, h2⟩
    exact r_nil (ob_of k2 h2)
  refine ob_nil (ob_end ?_)
  intro x w5 k5 hall
  obtain ⟨m5, hv5, h5⟩ := hall.1
  refine r_store2 rfl hv5 (hg.to k5) rfl h5.one ?_
  intro w6 k6 hg6
  repeat (first | refine r_nil ?_ | refine q_then ?_ | refine wp_ret ?_)
  refine end1 rfl (resV_agg (by conv => (lhs; whnf)) hg6 rfl) ⟨Keeps.past (k.trans k5) k6 (by omega), m5, rfl, h5.wrT k6 (hg.to k5) (by decide)⟩

theorem icmp_c {S : Nat → Prop} {w : World} {va vb : Value} {a b : Int} (hS : Up S w) (ha : IntV S 127 .u32 w va a) (hb : IntV S 127 .u32 w vb b) (hla : zl a ≤ 1099511627000) (hlb : zl b ≤ 1099511627000) :
    Gives Tryz.prog 30 [va, vb] w fun v' w' => v' = .int .i64 (a - b).sign ∧ Ext w w' := by
  obtain ⟨ma, rfl, ha⟩ := ha
  obtain ⟨mb, rfl, hb⟩ := hb
  refine gives_of Tryz.func30 rfl rfl rfl ?_
  repeat (first | refine wp_seq_region ?_ | refine wp_region ?_)
  refine r_box (cs := [.bool (tst (a < 0)), ma]) (by conv => (lhs; whnf)) rfl ?_
  intro w1 ga k1 hga hgsa
  skip
  refine r_box (cs := [.bool (tst (b < 0)), mb]) (by conv => (lhs; whnf)) rfl ?_
  intro w2 gb k2 hgb hgsb
  replace hga := hga.to k2
  have k := k1.trans k2
  repeat (first | refine r_load_all rfl hga rfl ?_ | refine r_load_all rfl hgb rfl ?_ | refine wp_seq_region ?_ | refine wp_region ?_ | refine r_assign (by conv => (lhs; whnf)) ?_ | refine r_nil ?_)
  refine r_call (iminus_c (hS.to k) ⟨ma, rfl, ha.to k⟩ ⟨mb, rfl, hb.to k⟩ hla hlb) rfl ?_
  rintro v3 w3 ⟨k3, h3⟩
  skip
  refine r_call (sign_c h3) rfl ?_
  rintro v4 w4 ⟨rfl, k4⟩
  repeat (first | refine r_assign (by conv => (lhs; whnf)) ?_ | refine r_nil ?_ | refine q_then ?_ | refine wp_ret ?_)
  exact end_tmp rfl (by conv => (lhs; whnf)) ⟨rfl, (k.trans k3).trans k4⟩

theorem whole_c {S : Nat → Prop} {w : World} {z : Int} (hS : Up S w) (h0 : -9223372036854775808 ≤ z) (h1 : z ≤ 9223372036854775807) :
    Gives Tryz.prog 13 [.int .i64 z] w fun v' w' => Ext w w' ∧ IntV S 127 .u32 w' v' z := by
  refine gives_of Tryz.func13 rfl rfl rfl ?_
  repeat (first | refine wp_seq_region ?_ | refine wp_region ?_)
  refine r_alloc (cs := [.bool false, .slice none 0 0]) rfl ?_
  intro w1 g k1 hg hgs
  repeat (first | refine wp_seq_region ?_ | refine wp_seq_seq ?_ | refine wp_region ?_ | refine r_move (by conv => (lhs; whnf)) ?_ | refine r_nil ?_ | refine q_then ?_ | refine r_lss rfl rfl ?_)
  try refine wp_seq_cond ?_
  refine wp_cond_dec rfl ?_ ?_ <;> intro hc
  · repeat (first | refine wp_seq_region ?_ | refine wp_region ?_ | refine r_move (by conv => (lhs; whnf)) ?_)
    refine r_conv rfl (show IntKind.u64.wrap z = z + 18446744073709551616 by simp [IntKind.wrap, IntKind.signed, IntKind.bits]; omega) ?_
    refine r_negU rfl (show IntKind.u64.wrap (-(z + 18446744073709551616)) = ((z.natAbs : Nat) : Int) by simp [IntKind.wrap, IntKind.signed, IntKind.bits]; omega) ?_
    refine r_call (magOf_c (m := z.natAbs) (hS.to k1) (by omega)) rfl ?_
    rintro v2 w2 ⟨k2, h2⟩
    refine r_build2 (by conv => (lhs; whnf)) (by conv => (lhs; whnf)) rfl h2.one ?_
    refine r_store2 rfl (by conv => (lhs; whnf)) (hg.to k2) rfl h2.one ?_
    intro w3 k3 hg3
    repeat (first | refine r_nil ?_ | refine q_then ?_ | refine wp_ret ?_ | refine q_then_ret ?_)
    refine end1 rfl (resV_agg (by conv => (lhs; whnf)) hg3 rfl) ⟨Keeps.past (k1.trans k2) k3 hgs, v2, ?_, h2.wrT k3 (hg.to k2) (by decide)⟩
    rw [tst_true hc]
  · obtain ⟨n, rfl⟩ := Int.eq_ofNat_of_zero_le (show 0 ≤ z by omega)
    repeat (first | refine wp_seq_region ?_ | refine wp_region ?_ | refine r_move (by conv => (lhs; whnf)) ?_ | refine wp_skip ?_ | refine r_conv rfl (wrap_u64 (by omega) (by omega)) ?_)
    refine r_call (magOf_c (m := n) (hS.to k1) (by omega)) rfl ?_
    rintro v2 w2 ⟨k2, h2⟩
    refine r_build2 (by conv => (lhs; whnf)) (by conv => (lhs; whnf)) rfl h2.one ?_
    refine r_store2 rfl (by conv => (lhs; whnf)) (hg.to k2) rfl h2.one ?_
    intro w3 k3 hg3
    repeat (first | refine r_nil ?_ | refine q_then ?_ | refine wp_ret ?_)
    refine end1 rfl (resV_agg (by conv => (lhs; whnf)) hg3 rfl) ⟨Keeps.past (k1.trans k2) k3 hgs, v2, ?_, h2.wrT k3 (hg.to k2) (by decide)⟩
    rw [tst_false hc]

/-- A copy of a slice of digits. -/
theorem clone_c {S : Nat → Prop} {w : World} {v : Value} {l : List Nat} (hS : Up S w) (h : Sl S 127 .u32 w v l) (hl : l.length ≤ 1099511627776) :
    Gives Tryz.prog 98 [v] w fun v' w' => Ext w w' ∧ Sl S 127 .u32 w' v' l := by
  obtain ⟨a, cap, hv, hcap⟩ := h.slice
  refine gives_of Tryz.func98 rfl rfl rfl ?_
  repeat (first | refine wp_seq_region ?_ | refine wp_seq_seq ?_ | refine wp_region ?_ | refine r_move (by conv => (lhs; whnf)) ?_ | refine r_assign (by conv => (lhs; whnf)) ?_ | refine r_nil ?_)
  refine r_eql_nil (a := a) (m := l.length) (cap := cap) (by rw [← hv]; rfl) ?_
  cases a with
  | none =>
    repeat (first | refine wp_seq_region ?_ | refine wp_region ?_ | refine r_assign (by conv => (lhs; whnf)) ?_ | refine r_nil ?_ | refine q_then ?_ | refine wp_ret ?_ | refine q_then_ret ?_ | refine wp_cond_true rfl ?_)
    have h0 : l = [] := by
      rcases h.2 with ⟨_, h2⟩ | ⟨b, off, cap', arr, fr, hv', _⟩
      · exact List.eq_nil_of_length_eq_zero h2
      · rw [hv'] at hv; cases hv
    subst h0
    exact end_tmp rfl (by conv => (lhs; whnf)) ⟨.refl, .nil⟩
  | some ad =>
    repeat (first | refine wp_seq_region ?_ | refine wp_region ?_ | refine r_nil ?_ | refine q_then ?_ | refine wp_skip ?_ | refine wp_cond_false rfl ?_)
    refine r_lit0 ?_
    intro w1 g k1 hg hgs
    repeat (first | refine r_move (by conv => (lhs; whnf)) ?_)
    have hgl := hg.lt
    refine r_append_row (base := g) (m := 0) (xs := []) (by conv => (lhs; whnf)) (own_made (cap := 0) hg (Nat.le_refl g) (by decide) rfl) (by conv => (lhs; whnf)) (h.to k1) (by decide) ones_map (by unfold maxLen; omega) (by omega) (by omega) ?_
    intro v2 w2 h2 k2
    repeat (first | refine r_assign (by conv => (lhs; whnf)) ?_ | refine r_nil ?_ | refine q_then ?_ | refine wp_ret ?_)
    refine end_tmp rfl (by conv => (lhs; whnf)) ⟨?_, ?_⟩
    · refine Keeps.later k1 k2 fun i hi _ e => ?_
      simp only [Value.ownBlock, Option.some.injEq] at e
      omega
    · have h3 := Row.of_own (S := S) h2 fun i hi => hS i (by omega)
      simpa using h3
end Go.Proofs.YtpmnjjmngogkkaaGreatDoor
