/- Fractions: their sums, products, quotients, order. -/
import Derived.Test.YtpmnjjmngogkkaaGreatDoorRat
set_option linter.unusedVariables false
set_option linter.unusedSimpArgs false
namespace Go.Proofs.YtpmnjjmngogkkaaGreatDoor
open Go Go.RowKit

theorem rat_times (a b : Rat) : a * b = mkRat (a.num * b.num) (a.den * b.den) := by
  rw [Rat.mul_def]
  unfold mkRat
  rw [dif_neg (Nat.mul_ne_zero a.den_nz b.den_nz)]
theorem rat_over (a b : Rat) (hb : b.num ≠ 0) : a / b = mkRat (a.num * b.den * b.num.sign) (a.den * b.num.natAbs) := by
  rw [Rat.div_def, Rat.inv_def]
  have h1 : a = Rat.divInt a.num a.den := by rw [Rat.divInt_ofNat]; exact (Rat.mkRat_self a).symm
  conv => lhs; rw [h1]
  rw [Rat.divInt_mul_divInt]
  rcases Int.lt_trichotomy b.num 0 with h | h | h
  · have e1 : (a.den : Int) * b.num = -((a.den * b.num.natAbs : Nat) : Int) := by
      rw [Int.natCast_mul, show ((b.num.natAbs : Nat) : Int) = -b.num by omega, Int.mul_neg, Int.neg_neg]
    rw [e1, Int.sign_eq_neg_one_of_neg h, Rat.divInt_neg', Rat.divInt_ofNat]
    congr 1
    rw [Int.mul_neg, Int.mul_one]
  · exact absurd h hb
  · have e1 : (a.den : Int) * b.num = ((a.den * b.num.natAbs : Nat) : Int) := by
      rw [Int.natCast_mul, show ((b.num.natAbs : Nat) : Int) = b.num by omega]
    rw [e1, Int.sign_eq_one_of_pos h, Rat.divInt_ofNat]
    congr 1
    rw [Int.mul_one]

theorem rplus_c {S : Nat → Prop} {w : World} {va vb : Value} {a b : Rat} (hS : Up S w) (ha : RatV S w va a) (hb : RatV S w vb b) (hla : rl a 400000000000) (hlb : rl b 400000000000) :
    Gives Tryz.prog 105 [va, vb] w fun v' w' => Ext w w' ∧ RatV S w' v' (a + b) := by
  rw [Rat.add_def']
  have h1 := zl_mul a.num b.den
  have h2 := zl_mul b.num a.den
  have h3 := zl_add (a.num * b.den) (b.num * a.den)
  have h4 := dl_mul a.den b.den
  have hd0 : 0 < a.den * b.den := Nat.mul_pos a.den_pos b.den_pos
  obtain ⟨hla1, hla2⟩ := hla
  obtain ⟨hlb1, hlb2⟩ := hlb
  unfold zl at *
  rw [Int.natAbs_natCast] at h1 h2
  have ha0 := ha
  have hb0 := hb
  obtain ⟨ma, ba, rfl, hma, hba⟩ := ha
  obtain ⟨mb, bb, rfl, hmb, hbb⟩ := hb
  refine gives_of Tryz.func105 rfl rfl rfl ?_
  repeat (first | refine wp_seq_region ?_ | refine wp_region ?_)
  refine r_box (cs := [.bool (tst (a.num < 0)), ma, ba]) (by conv => (lhs; whnf)) rfl ?_
  intro w1 ga k1 hga hgsa
  skip
  refine r_box (cs := [.bool (tst (b.num < 0)), mb, bb]) (by conv => (lhs; whnf)) rfl ?_
  intro w2 gb k2 hgb hgsb
  skip
  refine r_alloc (cs := [.bool false, .slice none 0 0, .slice none 0 0]) rfl ?_
  intro w3 g k3 hg hgs
  replace hga := hga.to (k2.trans k3)
  replace hgb := hgb.to k3
  have k := (k1.trans k2).trans k3
  have hs := (k1.trans k2).size
  replace ha0 := ha0.to k
  replace hb0 := hb0.to k
  replace hma := hma.to k
  replace hmb := hmb.to k
  replace hba := hba.to k
  replace hbb := hbb.to k
  replace hS := hS.to k
  clear k1 k2 k3
  repeat (first | refine wp_seq_region ?_ | refine r_nil ?_)
  refine wp_drawn 17 (by kernel_rfl) (by kernel_rfl) ?_
  apply ob_step
  · intro x w1 k1 hd
    refine r_field rfl ?_
    refine r_nil ?_
    exact ob_eq
  apply ob_step
  · intro x w1 k1 hd
    refine r_load_part rfl (hga.to k1) rfl rfl ?_
    refine r_nil ?_
    exact ob_eq
  apply ob_step
  · intro x w1 k1 hd
    refine r_load_all rfl (hgb.to k1) rfl ?_
    refine r_nil ?_
    exact ob_eq
  refine ob_step (e := intE S 127 .u32 (b.den : Int)) ?_ ?_
  · intro x w1 k1 hd
    refine r_call (rden_c (hS.to k1) (hb0.to k1)) rfl ?_
    rintro v2 w2 ⟨k2, h2⟩
    exact r_nil (ob_of k2 h2)
  refine ob_step (e := intE S 127 .u32 (a.num * b.den)) ?_ ?_
  · intro x w1 k1 hd
    refine r_call (itimes_c (hS.to k1) ⟨ma, rfl, hma.to k1⟩ hd.1 (by unfold zl; omega) (by unfold zl; rw [Int.natAbs_natCast]; omega)) rfl ?_
    rintro v2 w2 ⟨k2, h2⟩
    exact r_nil (ob_of k2 h2)
  apply ob_step
  · intro x w1 k1 hd
    refine r_field rfl ?_
    refine r_nil ?_
    exact ob_eq
  apply ob_step
  · intro x w1 k1 hd
    refine r_load_part rfl (hgb.to k1) rfl rfl ?_
    refine r_nil ?_
    exact ob_eq
  apply ob_step
  · intro x w1 k1 hd
    refine r_load_all rfl (hga.to k1) rfl ?_
    refine r_nil ?_
    exact ob_eq
  refine ob_step (e := intE S 127 .u32 (a.den : Int)) ?_ ?_
  · intro x w1 k1 hd
    refine r_call (rden_c (hS.to k1) (ha0.to k1)) rfl ?_
    rintro v2 w2 ⟨k2, h2⟩
    exact r_nil (ob_of k2 h2)
  refine ob_step (e := intE S 127 .u32 (b.num * a.den)) ?_ ?_
  · intro x w1 k1 hd
    refine r_call (itimes_c (hS.to k1) ⟨mb, rfl, hmb.to k1⟩ hd.1 (by unfold zl; omega) (by unfold zl; rw [Int.natAbs_natCast]; omega)) rfl ?_
    rintro v2 w2 ⟨k2, h2⟩
    exact r_nil (ob_of k2 h2)
  refine ob_step (e := intE S 127 .u32 (a.num * b.den + b.num * a.den)) ?_ ?_
  · intro x w1 k1 hd
    refine r_call (iplus_c (hS.to k1) hd.2.2.2.2.2.1 hd.1 (by omega) (by omega)) rfl ?_
    rintro v2 w2 ⟨k2, h2⟩
    exact r_nil (ob_of k2 h2)
  apply ob_step
  · intro x w1 k1 hd
    refine r_load_all rfl (hga.to k1) rfl ?_
    refine r_nil ?_
    exact ob_eq
  refine ob_step (e := natE S 127 .u32 a.den) ?_ ?_
  · intro x w1 k1 hd
    refine r_call (den_c (hS.to k1) (ha0.to k1)) rfl ?_
    rintro v2 w2 ⟨k2, h2⟩
    exact r_nil (ob_of k2 h2)
  apply ob_step
  · intro x w1 k1 hd
    refine r_load_all rfl (hgb.to k1) rfl ?_
    refine r_nil ?_
    exact ob_eq
  refine ob_step (e := natE S 127 .u32 b.den) ?_ ?_
  · intro x w1 k1 hd
    refine r_call (den_c (hS.to k1) (hb0.to k1)) rfl ?_
    rintro v2 w2 ⟨k2, h2⟩
    exact r_nil (ob_of k2 h2)
  refine ob_step (e := natE S 127 .u32 (a.den * b.den)) ?_ ?_
  · intro x w1 k1 hd
    refine r_call (times_c (hS.to k1) hd.2.2.1 hd.1 (by omega) (by omega)) rfl ?_
    rintro v2 w2 ⟨k2, h2⟩
    exact r_nil (ob_of k2 h2)
  refine ob_step (e := ratE S (mkRat (a.num * b.den + b.num * a.den) (a.den * b.den))) ?_ ?_
  · intro x w1 k1 hd
    refine r_call (reduced_c (hS.to k1) hd.2.2.2.2.2.1 hd.1 hd0 (by unfold zl; omega) (by omega)) rfl ?_
    rintro v2 w2 ⟨k2, h2⟩
    exact r_nil (ob_of k2 h2)
  refine ob_nil (ob_end ?_)
  intro x w5 k5 hall
  obtain ⟨m5, b5, hv5, h5, h6⟩ := hall.1
  refine r_store3 rfl hv5 (hg.to k5) rfl rfl h5.one h6.one ?_
  intro w6 k6 hg6
  repeat (first | refine r_nil ?_ | refine q_then ?_ | refine wp_ret ?_)
  exact end1 rfl (resV_agg (by conv => (lhs; whnf)) hg6 rfl) ⟨Keeps.past (k.trans k5) k6 (by omega), m5, b5, rfl, h5.wrT k6 (hg.to k5) (by decide), h6.wrT k6 (hg.to k5) (by decide)⟩

theorem rtimes_c {S : Nat → Prop} {w : World} {va vb : Value} {a b : Rat} (hS : Up S w) (ha : RatV S w va a) (hb : RatV S w vb b) (hla : rl a 400000000000) (hlb : rl b 400000000000) :
    Gives Tryz.prog 108 [va, vb] w fun v' w' => Ext w w' ∧ RatV S w' v' (a * b) := by
  rw [rat_times]
  have h1 := zl_mul a.num b.num
  have h4 := dl_mul a.den b.den
  have hd0 : 0 < a.den * b.den := Nat.mul_pos a.den_pos b.den_pos
  obtain ⟨hla1, hla2⟩ := hla
  obtain ⟨hlb1, hlb2⟩ := hlb
  unfold zl at *
  have ha0 := ha
  have hb0 := hb
  obtain ⟨ma, ba, rfl, hma, hba⟩ := ha
  obtain ⟨mb, bb, rfl, hmb, hbb⟩ := hb
  refine gives_of Tryz.func108 rfl rfl rfl ?_
  repeat (first | refine wp_seq_region ?_ | refine wp_region ?_)
  refine r_box (cs := [.bool (tst (a.num < 0)), ma, ba]) (by conv => (lhs; whnf)) rfl ?_
  intro w1 ga k1 hga hgsa
  skip
  refine r_box (cs := [.bool (tst (b.num < 0)), mb, bb]) (by conv => (lhs; whnf)) rfl ?_
  intro w2 gb k2 hgb hgsb
  skip
  refine r_alloc (cs := [.bool false, .slice none 0 0, .slice none 0 0]) rfl ?_
  intro w3 g k3 hg hgs
  replace hga := hga.to (k2.trans k3)
  replace hgb := hgb.to k3
  have k := (k1.trans k2).trans k3
  have hs := (k1.trans k2).size
  replace ha0 := ha0.to k
  replace hb0 := hb0.to k
  replace hma := hma.to k
  replace hmb := hmb.to k
  replace hba := hba.to k
  replace hbb := hbb.to k
  replace hS := hS.to k
  clear k1 k2 k3
  repeat (first | refine wp_seq_region ?_ | refine r_nil ?_)
  refine wp_drawn 11 (by kernel_rfl) (by kernel_rfl) ?_
  apply ob_step
  · intro x w1 k1 hd
    refine r_field rfl ?_
    refine r_nil ?_
    exact ob_eq
  apply ob_step
  · intro x w1 k1 hd
    refine r_load_part rfl (hga.to k1) rfl rfl ?_
    refine r_nil ?_
    exact ob_eq
  apply ob_step
  · intro x w1 k1 hd
    refine r_field rfl ?_
    refine r_nil ?_
    exact ob_eq
  apply ob_step
  · intro x w1 k1 hd
    refine r_load_part rfl (hgb.to k1) rfl rfl ?_
    refine r_nil ?_
    exact ob_eq
  refine ob_step (e := intE S 127 .u32 (a.num * b.num)) ?_ ?_
  · intro x w1 k1 hd
    refine r_call (itimes_c (hS.to k1) ⟨ma, rfl, hma.to k1⟩ ⟨mb, rfl, hmb.to k1⟩ (by unfold zl; omega) (by unfold zl; omega)) rfl ?_
    rintro v2 w2 ⟨k2, h2⟩
    exact r_nil (ob_of k2 h2)
  apply ob_step
  · intro x w1 k1 hd
    refine r_load_all rfl (hga.to k1) rfl ?_
    refine r_nil ?_
    exact ob_eq
  refine ob_step (e := natE S 127 .u32 a.den) ?_ ?_
  · intro x w1 k1 hd
    refine r_call (den_c (hS.to k1) (ha0.to k1)) rfl ?_
    rintro v2 w2 ⟨k2, h2⟩
    exact r_nil (ob_of k2 h2)
  apply ob_step
  · intro x w1 k1 hd
    refine r_load_all rfl (hgb.to k1) rfl ?_
    refine r_nil ?_
    exact ob_eq
  refine ob_step (e := natE S 127 .u32 b.den) ?_ ?_
  · intro x w1 k1 hd
    refine r_call (den_c (hS.to k1) (hb0.to k1)) rfl ?_
    rintro v2 w2 ⟨k2, h2⟩
    exact r_nil (ob_of k2 h2)
  refine ob_step (e := natE S 127 .u32 (a.den * b.den)) ?_ ?_
  · intro x w1 k1 hd
    refine r_call (times_c (hS.to k1) hd.2.2.1 hd.1 (by omega) (by omega)) rfl ?_
    rintro v2 w2 ⟨k2, h2⟩
    exact r_nil (ob_of k2 h2)
  refine ob_step (e := ratE S (mkRat (a.num * b.num) (a.den * b.den))) ?_ ?_
  · intro x w1 k1 hd
    refine r_call (reduced_c (hS.to k1) hd.2.2.2.2.2.1 hd.1 hd0 (by unfold zl; omega) (by omega)) rfl ?_
    rintro v2 w2 ⟨k2, h2⟩
    exact r_nil (ob_of k2 h2)
  refine ob_nil (ob_end ?_)
  intro x w5 k5 hall
  obtain ⟨m5, b5, hv5, h5, h6⟩ := hall.1
  refine r_store3 rfl hv5 (hg.to k5) rfl rfl h5.one h6.one ?_
  intro w6 k6 hg6
  repeat (first | refine r_nil ?_ | refine q_then ?_ | refine wp_ret ?_)
  exact end1 rfl (resV_agg (by conv => (lhs; whnf)) hg6 rfl) ⟨Keeps.past (k.trans k5) k6 (by omega), m5, b5, rfl, h5.wrT k6 (hg.to k5) (by decide), h6.wrT k6 (hg.to k5) (by decide)⟩

theorem over_abs (a b : Rat) (hb : b.num ≠ 0) : (a.num * b.den * b.num.sign).natAbs = a.num.natAbs * b.den := by
  have h1 : b.num.sign.natAbs = 1 := by
    rcases Int.lt_trichotomy b.num 0 with h | h | h
    · rw [Int.sign_eq_neg_one_of_neg h]; rfl
    · exact absurd h hb
    · rw [Int.sign_eq_one_of_pos h]; rfl
  rw [Int.natAbs_mul, Int.natAbs_mul, h1, Int.natAbs_natCast, Nat.mul_one]
theorem over_sign (a b : Rat) (hb : b.num ≠ 0) : a.num * b.den * b.num.sign < 0 ↔ (¬ (a.num < 0 ↔ b.num < 0)) ∧ 0 < a.num.natAbs * b.den := by
  have hd := b.den_pos
  have e : a.num.natAbs * b.den = a.num.natAbs * (b.den : Int).natAbs := by rw [Int.natAbs_natCast]
  have h0 := mul_sign a.num b.den
  have hdn : ¬ ((b.den : Int) < 0) := by omega
  rw [Int.natAbs_natCast] at h0
  rcases Int.lt_trichotomy b.num 0 with h | h | h
  · rw [Int.sign_eq_neg_one_of_neg h, Int.mul_neg, Int.mul_one]
    have hp : 0 < a.num.natAbs * b.den ↔ a.num ≠ 0 := by
      constructor
      · intro h1 h2; rw [h2] at h1; simp at h1
      · intro h1; exact Nat.mul_pos (by omega) hd
    rw [hp] at h0 ⊢
    have hz : a.num = 0 → a.num * (b.den : Int) = 0 := fun h => by rw [h]; simp
    have hnz : a.num * (b.den : Int) = 0 → a.num = 0 := fun h => by
      rcases Int.mul_eq_zero.1 h with h | h
      · exact h
      · omega
    constructor
    · intro h1
      refine ⟨fun hi => ?_, fun hi => by have := hz hi; omega⟩
      have : a.num < 0 := hi.2 h
      have h2 := h0.2 ⟨fun x => hdn (x.1 this), by omega⟩
      omega
    · rintro ⟨h1, h2⟩
      have h3 : ¬ a.num < 0 := fun x => h1 ⟨fun _ => h, fun _ => x⟩
      have h4 : ¬ a.num * (b.den : Int) < 0 := fun x => (h0.1 x).1 ⟨fun y => absurd y h3, fun y => absurd y hdn⟩
      have : a.num * (b.den : Int) ≠ 0 := fun x => h2 (hnz x)
      omega
  · exact absurd h hb
  · rw [Int.sign_eq_one_of_pos h, Int.mul_one, h0]
    have h2 : ¬ b.num < 0 := by omega
    constructor
    · rintro ⟨h1, h3⟩
      exact ⟨fun hi => h1 ⟨fun x => absurd (hi.1 x) h2, fun x => absurd x hdn⟩, h3⟩
    · rintro ⟨h1, h3⟩
      exact ⟨fun hi => h1 ⟨fun x => absurd (hi.1 x) hdn, fun x => absurd x h2⟩, h3⟩
theorem rover_c {S : Nat → Prop} {w : World} {va vb : Value} {a b : Rat} (hS : Up S w) (ha : RatV S w va a) (hb : RatV S w vb b) (hla : rl a 400000000000) (hlb : rl b 400000000000) (hb0' : b.num ≠ 0) :
    Gives Tryz.prog 109 [va, vb] w fun v' w' => Ext w w' ∧ RatV S w' v' (a / b) := by
  rw [rat_over a b hb0']
  have h1 := dl_mul a.num.natAbs b.den
  have h4 := dl_mul a.den b.num.natAbs
  have hd0 : 0 < a.den * b.num.natAbs := Nat.mul_pos a.den_pos (by omega)
  have hab := over_abs a b hb0'
  have hsg := over_sign a b hb0'
  obtain ⟨hla1, hla2⟩ := hla
  obtain ⟨hlb1, hlb2⟩ := hlb
  have ha0 := ha
  have hb0 := hb
  obtain ⟨ma, ba, rfl, hma, hba⟩ := ha
  obtain ⟨mb, bb, rfl, hmb, hbb⟩ := hb
  refine gives_of Tryz.func109 rfl rfl rfl ?_
  repeat (first | refine wp_seq_region ?_ | refine wp_region ?_)
  refine r_box (cs := [.bool (tst (a.num < 0)), ma, ba]) (by conv => (lhs; whnf)) rfl ?_
  intro w1 ga k1 hga hgsa
  skip
  refine r_box (cs := [.bool (tst (b.num < 0)), mb, bb]) (by conv => (lhs; whnf)) rfl ?_
  intro w2 gb k2 hgb hgsb
  skip
  refine r_alloc (cs := [.bool false, .slice none 0 0, .slice none 0 0]) rfl ?_
  intro w3 g k3 hg hgs
  replace hga := hga.to (k2.trans k3)
  replace hgb := hgb.to k3
  have k := (k1.trans k2).trans k3
  have hs := (k1.trans k2).size
  replace ha0 := ha0.to k
  replace hb0 := hb0.to k
  replace hma := hma.to k
  replace hmb := hmb.to k
  replace hba := hba.to k
  replace hbb := hbb.to k
  replace hS := hS.to k
  clear k1 k2 k3
  repeat (first | refine wp_seq_region ?_ | refine r_nil ?_)
  refine wp_drawn 21 (by kernel_rfl) (by kernel_rfl) ?_
  apply ob_step
  · intro x w1 k1 hd
    refine r_field rfl ?_
    refine r_nil ?_
    exact ob_eq
  apply ob_step
  · intro x w1 k1 hd
    refine r_field rfl ?_
    refine r_nil ?_
    exact ob_eq
  apply ob_step
  · intro x w1 k1 hd
    refine r_load_blk rfl (hga.to k1) rfl ?_
    refine r_nil ?_
    exact ob_eq
  apply ob_step
  · intro x w1 k1 hd
    refine r_field rfl ?_
    refine r_nil ?_
    exact ob_eq
  apply ob_step
  · intro x w1 k1 hd
    refine r_field rfl ?_
    refine r_nil ?_
    exact ob_eq
  apply ob_step
  · intro x w1 k1 hd
    refine r_load_blk rfl (hgb.to k1) rfl ?_
    refine r_nil ?_
    exact ob_eq
  apply ob_step
  · intro x w1 k1 hd
    refine r_neqB rfl rfl ?_
    refine r_nil ?_
    exact ob_eq
  apply ob_step
  · intro x w1 k1 hd
    refine r_field rfl ?_
    refine r_nil ?_
    exact ob_eq
  apply ob_step
  · intro x w1 k1 hd
    refine r_field rfl ?_
    refine r_nil ?_
    exact ob_eq
  apply ob_step
  · intro x w1 k1 hd
    refine r_load_blk rfl (hga.to k1) rfl ?_
    refine r_nil ?_
    exact ob_eq
  apply ob_step
  · intro x w1 k1 hd
    refine r_load_all rfl (hgb.to k1) rfl ?_
    refine r_nil ?_
    exact ob_eq
  refine ob_step (e := natE S 127 .u32 b.den) ?_ ?_
  · intro x w1 k1 hd
    refine r_call (den_c (hS.to k1) (hb0.to k1)) rfl ?_
    rintro v2 w2 ⟨k2, h2⟩
    exact r_nil (ob_of k2 h2)
  refine ob_step (e := natE S 127 .u32 (a.num.natAbs * b.den)) ?_ ?_
  · intro x w1 k1 hd
    refine r_call (times_c (hS.to k1) (hma.to k1) hd.1 (by omega) (by omega)) rfl ?_
    rintro v2 w2 ⟨k2, h2⟩
    exact r_nil (ob_of k2 h2)
  refine ob_step (e := intE S 127 .u32 (a.num * b.den * b.num.sign)) ?_ ?_
  · intro x w1 k1 hd
    refine r_call (signed_c (a.num * b.den * b.num.sign) hd.1 hab hsg) rfl ?_
    rintro v2 w2 ⟨k2, h2⟩
    exact r_nil (ob_of k2 h2)
  apply ob_step
  · intro x w1 k1 hd
    refine r_load_all rfl (hga.to k1) rfl ?_
    refine r_nil ?_
    exact ob_eq
  refine ob_step (e := natE S 127 .u32 a.den) ?_ ?_
  · intro x w1 k1 hd
    refine r_call (den_c (hS.to k1) (ha0.to k1)) rfl ?_
    rintro v2 w2 ⟨k2, h2⟩
    exact r_nil (ob_of k2 h2)
  apply ob_step
  · intro x w1 k1 hd
    refine r_field rfl ?_
    refine r_nil ?_
    exact ob_eq
  apply ob_step
  · intro x w1 k1 hd
    refine r_field rfl ?_
    refine r_nil ?_
    exact ob_eq
  apply ob_step
  · intro x w1 k1 hd
    refine r_load_blk rfl (hgb.to k1) rfl ?_
    refine r_nil ?_
    exact ob_eq
  refine ob_step (e := natE S 127 .u32 (a.den * b.num.natAbs)) ?_ ?_
  · intro x w1 k1 hd
    refine r_call (times_c (hS.to k1) hd.2.2.2.1 (hmb.to k1) (by omega) (by omega)) rfl ?_
    rintro v2 w2 ⟨k2, h2⟩
    exact r_nil (ob_of k2 h2)
  refine ob_step (e := ratE S (mkRat (a.num * b.den * b.num.sign) (a.den * b.num.natAbs))) ?_ ?_
  · intro x w1 k1 hd
    refine r_call (reduced_c (hS.to k1) hd.2.2.2.2.2.2.1 hd.1 hd0 (by unfold zl; rw [hab]; omega) (by omega)) rfl ?_
    rintro v2 w2 ⟨k2, h2⟩
    exact r_nil (ob_of k2 h2)
  refine ob_nil (ob_end ?_)
  intro x w5 k5 hall
  obtain ⟨m5, b5, hv5, h5, h6⟩ := hall.1
  refine r_store3 rfl hv5 (hg.to k5) rfl rfl h5.one h6.one ?_
  intro w6 k6 hg6
  repeat (first | refine r_nil ?_ | refine q_then ?_ | refine wp_ret ?_)
  exact end1 rfl (resV_agg (by conv => (lhs; whnf)) hg6 rfl) ⟨Keeps.past (k.trans k5) k6 (by omega), m5, b5, rfl, h5.wrT k6 (hg.to k5) (by decide), h6.wrT k6 (hg.to k5) (by decide)⟩

theorem icmp'_c {S : Nat → Prop} {w : World} {va vb : Value} {a b : Int} (hS : Up S w) (ha : IntV S 127 .u32 w va a) (hb : IntV S 127 .u32 w vb b) (hla : zl a ≤ 1099511627000) (hlb : zl b ≤ 1099511627000) :
    Gives Tryz.prog 30 [va, vb] w fun v' w' => Ext w w' ∧ v' = .int .i64 (a - b).sign :=
  (icmp_c hS ha hb hla hlb).mono fun v w h => ⟨h.2, h.1⟩
theorem rcmp_c {S : Nat → Prop} {w : World} {va vb : Value} {a b : Rat} (hS : Up S w) (ha : RatV S w va a) (hb : RatV S w vb b) (hla : rl a 400000000000) (hlb : rl b 400000000000) :
    Gives Tryz.prog 47 [va, vb] w fun v' w' => v' = .int .i64 (a.num * b.den - b.num * a.den).sign ∧ Ext w w' := by
  have h1 := zl_mul a.num b.den
  have h2 := zl_mul b.num a.den
  obtain ⟨hla1, hla2⟩ := hla
  obtain ⟨hlb1, hlb2⟩ := hlb
  unfold zl at *
  rw [Int.natAbs_natCast] at h1 h2
  have ha0 := ha
  have hb0 := hb
  obtain ⟨ma, ba, rfl, hma, hba⟩ := ha
  obtain ⟨mb, bb, rfl, hmb, hbb⟩ := hb
  refine gives_of Tryz.func47 rfl rfl rfl ?_
  repeat (first | refine wp_seq_region ?_ | refine wp_region ?_)
  refine r_box (cs := [.bool (tst (a.num < 0)), ma, ba]) (by conv => (lhs; whnf)) rfl ?_
  intro w1 ga k1 hga hgsa
  skip
  refine r_box (cs := [.bool (tst (b.num < 0)), mb, bb]) (by conv => (lhs; whnf)) rfl ?_
  intro w2 gb k2 hgb hgsb
  have k3 : Ext w2 w2 := .refl
  replace hga := hga.to k2
  have k := k1.trans k2
  replace ha0 := ha0.to k
  replace hb0 := hb0.to k
  replace hma := hma.to k
  replace hmb := hmb.to k
  replace hba := hba.to k
  replace hbb := hbb.to k
  replace hS := hS.to k
  clear k1 k2 k3
  repeat (first | refine wp_seq_region ?_ | refine r_assign (by conv => (lhs; whnf)) ?_ | refine r_nil ?_)
  refine wp_drawn 11 (by kernel_rfl) (by kernel_rfl) ?_
  apply ob_step
  · intro x w1 k1 hd
    refine r_field rfl ?_
    refine r_nil ?_
    exact ob_eq
  apply ob_step
  · intro x w1 k1 hd
    refine r_load_part rfl (hga.to k1) rfl rfl ?_
    refine r_nil ?_
    exact ob_eq
  apply ob_step
  · intro x w1 k1 hd
    refine r_load_all rfl (hgb.to k1) rfl ?_
    refine r_nil ?_
    exact ob_eq
  refine ob_step (e := intE S 127 .u32 (b.den : Int)) ?_ ?_
  · intro x w1 k1 hd
    refine r_call (rden_c (hS.to k1) (hb0.to k1)) rfl ?_
    rintro v2 w2 ⟨k2, h2⟩
    exact r_nil (ob_of k2 h2)
  refine ob_step (e := intE S 127 .u32 (a.num * b.den)) ?_ ?_
  · intro x w1 k1 hd
    refine r_call (itimes_c (hS.to k1) ⟨ma, rfl, hma.to k1⟩ hd.1 (by unfold zl; omega) (by unfold zl; rw [Int.natAbs_natCast]; omega)) rfl ?_
    rintro v2 w2 ⟨k2, h2⟩
    exact r_nil (ob_of k2 h2)
  apply ob_step
  · intro x w1 k1 hd
    refine r_field rfl ?_
    refine r_nil ?_
    exact ob_eq
  apply ob_step
  · intro x w1 k1 hd
    refine r_load_part rfl (hgb.to k1) rfl rfl ?_
    refine r_nil ?_
    exact ob_eq
  apply ob_step
  · intro x w1 k1 hd
    refine r_load_all rfl (hga.to k1) rfl ?_
    refine r_nil ?_
    exact ob_eq
  refine ob_step (e := intE S 127 .u32 (a.den : Int)) ?_ ?_
  · intro x w1 k1 hd
    refine r_call (rden_c (hS.to k1) (ha0.to k1)) rfl ?_
    rintro v2 w2 ⟨k2, h2⟩
    exact r_nil (ob_of k2 h2)
  refine ob_step (e := intE S 127 .u32 (b.num * a.den)) ?_ ?_
  · intro x w1 k1 hd
    refine r_call (itimes_c (hS.to k1) ⟨mb, rfl, hmb.to k1⟩ hd.1 (by unfold zl; omega) (by unfold zl; rw [Int.natAbs_natCast]; omega)) rfl ?_
    rintro v2 w2 ⟨k2, h2⟩
    exact r_nil (ob_of k2 h2)
  refine ob_step (e := Ent.of (fun v w => v = .int .i64 (a.num * b.den - b.num * a.den).sign) (fun v w w' h _ => h)) ?_ ?_
  · intro x w1 k1 hd
    refine r_call (icmp'_c (hS.to k1) hd.2.2.2.2.2.1 hd.1 (by unfold zl; omega) (by unfold zl; omega)) rfl ?_
    rintro v2 w2 ⟨k2, h2⟩
    exact r_nil (ob_of k2 h2)
  refine ob_nil (ob_end ?_)
  intro x w5 k5 hall
  have hv : x 10 = .int .i64 (a.num * b.den - b.num * a.den).sign := hall.1
  repeat (first | refine r_assign (by conv => (lhs; whnf)) ?_ | refine r_nil ?_ | refine q_then ?_ | refine wp_ret ?_)
  exact end_tmp rfl hv ⟨rfl, k.trans k5⟩

theorem rsign_c {S : Nat → Prop} {w : World} {v : Value} {q : Rat} (h : RatV S w v q) :
    Gives Tryz.prog 19 [v] w fun v' w' => v' = .int .i64 q.num.sign ∧ Ext w w' := by
  obtain ⟨m, b, rfl, hm, hb⟩ := h
  refine gives_of Tryz.func19 rfl rfl rfl ?_
  repeat (first | refine wp_seq_region ?_ | refine wp_region ?_)
  refine r_box (cs := [.bool (tst (q.num < 0)), m, b]) (by conv => (lhs; whnf)) rfl ?_
  intro w1 g k1 hg hgs
  repeat (first | refine r_load_part rfl hg rfl rfl ?_ | refine wp_seq_region ?_ | refine wp_region ?_ | refine r_assign (by conv => (lhs; whnf)) ?_ | refine r_nil ?_ | refine r_field rfl ?_)
  refine r_call (sign_c (z := q.num) ⟨m, rfl, hm.to k1⟩) rfl ?_
  rintro v2 w2 ⟨rfl, k2⟩
  repeat (first | refine r_assign (by conv => (lhs; whnf)) ?_ | refine r_nil ?_ | refine q_then ?_ | refine wp_ret ?_)
  exact end_tmp rfl (by conv => (lhs; whnf)) ⟨rfl, k1.trans k2⟩

theorem bot_neg (q : Rat) : bot (-q) = bot q := by unfold bot; rw [Rat.neg_den]
theorem rneg_c {S : Nat → Prop} {w : World} {v : Value} {q : Rat} (h : RatV S w v q) :
    Gives Tryz.prog 55 [v] w fun v' w' => Ext w w' ∧ RatV S w' v' (-q) := by
  obtain ⟨m, b, rfl, hm, hb⟩ := h
  refine gives_of Tryz.func55 rfl rfl rfl ?_
  repeat (first | refine wp_seq_region ?_ | refine wp_region ?_)
  refine r_box (cs := [.bool (tst (q.num < 0)), m, b]) (by conv => (lhs; whnf)) rfl ?_
  intro w1 ga k1 hga hgsa
  skip
  refine r_alloc (cs := [.bool false, .slice none 0 0, .slice none 0 0]) rfl ?_
  intro w2 g k2 hg hgs
  replace hga := hga.to k2
  have k := k1.trans k2
  have hs := k1.size
  replace hm := hm.to k
  replace hb := hb.to k
  clear k1 k2
  repeat (first | refine wp_seq_region ?_ | refine r_nil ?_)
  refine wp_drawn 6 (by kernel_rfl) (by kernel_rfl) ?_
  apply ob_step
  · intro x w1 k1 hd
    refine r_field rfl ?_
    refine r_nil ?_
    exact ob_eq
  apply ob_step
  · intro x w1 k1 hd
    refine r_load_part rfl (hga.to k1) rfl rfl ?_
    refine r_nil ?_
    exact ob_eq
  refine ob_step (e := intE S 127 .u32 (-q.num)) ?_ ?_
  · intro x w1 k1 hd
    refine r_call (neg_c ⟨m, rfl, hm.to k1⟩) rfl ?_
    rintro v2 w2 ⟨k2, h2⟩
    exact r_nil (ob_of k2 h2)
  apply ob_step
  · intro x w1 k1 hd
    refine r_field rfl ?_
    refine r_nil ?_
    exact ob_eq
  apply ob_step
  · intro x w1 k1 hd
    refine r_load_blk rfl (hga.to k1) rfl ?_
    refine r_nil ?_
    exact ob_eq
  refine ob_step (e := ratE S (-q)) ?_ ?_
  · intro x w1 k1 hd
    obtain ⟨m1, hx1, h1⟩ : IntV S 127 .u32 w1 (x 2) (-q.num) := hd.2.2.1
    refine r_build3 hx1 rfl hb.one ?_
    refine r_nil (ob_of .refl ⟨m1, b, ?_, ?_, ?_⟩)
    · rw [Rat.neg_num]; rfl
    · rw [Rat.neg_num]; exact h1
    · rw [bot_neg]; exact hb.to k1
  refine ob_nil (ob_end ?_)
  intro x w5 k5 hall
  obtain ⟨m5, b5, hv5, h5, h6⟩ := hall.1
  refine r_store3 rfl hv5 (hg.to k5) rfl rfl h5.one h6.one ?_
  intro w6 k6 hg6
  repeat (first | refine r_nil ?_ | refine q_then ?_ | refine wp_ret ?_)
  exact end1 rfl (resV_agg (by conv => (lhs; whnf)) hg6 rfl) ⟨Keeps.past (k.trans k5) k6 (by omega), m5, b5, rfl, h5.wrT k6 (hg.to k5) (by decide), h6.wrT k6 (hg.to k5) (by decide)⟩

theorem rminus_c {S : Nat → Prop} {w : World} {va vb : Value} {a b : Rat} (hS : Up S w) (ha : RatV S w va a) (hb : RatV S w vb b) (hla : rl a 400000000000) (hlb : rl b 400000000000) :
    Gives Tryz.prog 107 [va, vb] w fun v' w' => Ext w w' ∧ RatV S w' v' (a - b) := by
  rw [Rat.sub_eq_add_neg]
  have ha0 := ha
  have hb0 := hb
  obtain ⟨ma, ba, rfl, hma, hba⟩ := ha
  obtain ⟨mb, bb, rfl, hmb, hbb⟩ := hb
  refine gives_of Tryz.func107 rfl rfl rfl ?_
  repeat (first | refine wp_seq_region ?_ | refine wp_region ?_)
  refine r_box (cs := [.bool (tst (a.num < 0)), ma, ba]) (by conv => (lhs; whnf)) rfl ?_
  intro w1 ga k1 hga hgsa
  skip
  refine r_box (cs := [.bool (tst (b.num < 0)), mb, bb]) (by conv => (lhs; whnf)) rfl ?_
  intro w2 gb k2 hgb hgsb
  skip
  refine r_alloc (cs := [.bool false, .slice none 0 0, .slice none 0 0]) rfl ?_
  intro w3 g k3 hg hgs
  replace hga := hga.to (k2.trans k3)
  replace hgb := hgb.to k3
  have k := (k1.trans k2).trans k3
  have hs := (k1.trans k2).size
  replace ha0 := ha0.to k
  replace hb0 := hb0.to k
  replace hma := hma.to k
  replace hmb := hmb.to k
  replace hba := hba.to k
  replace hbb := hbb.to k
  replace hS := hS.to k
  clear k1 k2 k3
  repeat (first | refine wp_seq_region ?_ | refine r_nil ?_)
  refine wp_drawn 4 (by kernel_rfl) (by kernel_rfl) ?_
  apply ob_step
  · intro x w1 k1 hd
    refine r_load_all rfl (hga.to k1) rfl ?_
    refine r_nil ?_
    exact ob_eq
  apply ob_step
  · intro x w1 k1 hd
    refine r_load_all rfl (hgb.to k1) rfl ?_
    refine r_nil ?_
    exact ob_eq
  refine ob_step (e := ratE S (-b)) ?_ ?_
  · intro x w1 k1 hd
    refine r_call (rneg_c (hb0.to k1)) rfl ?_
    rintro v2 w2 ⟨k2, h2⟩
    exact r_nil (ob_of k2 h2)
  refine ob_step (e := ratE S (a + -b)) ?_ ?_
  · intro x w1 k1 hd
    refine r_call (rplus_c (hS.to k1) (ha0.to k1) hd.1 hla ⟨by rw [Rat.neg_num, Int.natAbs_neg]; exact hlb.1, by rw [Rat.neg_den]; exact hlb.2⟩) rfl ?_
    rintro v2 w2 ⟨k2, h2⟩
    exact r_nil (ob_of k2 h2)
  refine ob_nil (ob_end ?_)
  intro x w5 k5 hall
  obtain ⟨m5, b5, hv5, h5, h6⟩ := hall.1
  refine r_store3 rfl hv5 (hg.to k5) rfl rfl h5.one h6.one ?_
  intro w6 k6 hg6
  repeat (first | refine r_nil ?_ | refine q_then ?_ | refine wp_ret ?_)
  exact end1 rfl (resV_agg (by conv => (lhs; whnf)) hg6 rfl) ⟨Keeps.past (k.trans k5) k6 (by omega), m5, b5, rfl, h5.wrT k6 (hg.to k5) (by decide), h6.wrT k6 (hg.to k5) (by decide)⟩

/-- An integer as a fraction. -/
theorem bot_int (z : Int) : bot (z : Rat) = 0 := by unfold bot; simp
theorem of_c {S : Nat → Prop} {w : World} {z : Int} (hS : Up S w) (h0 : -9223372036854775808 ≤ z) (h1 : z ≤ 9223372036854775807) :
    Gives Tryz.prog 15 [.int .i64 z] w fun v' w' => Ext w w' ∧ RatV S w' v' (z : Rat) := by
  refine gives_of Tryz.func15 rfl rfl rfl ?_
  repeat (first | refine wp_seq_region ?_ | refine wp_region ?_)
  refine r_alloc (cs := [.bool false, .slice none 0 0, .slice none 0 0]) rfl ?_
  intro w1 g k1 hg hgs
  repeat (first | refine wp_seq_region ?_ | refine wp_region ?_ | refine r_move (by conv => (lhs; whnf)) ?_ | refine r_nil ?_)
  refine r_call (whole_c (hS.to k1) h0 h1) rfl ?_
  rintro v2 w2 ⟨k2, m2, rfl, h2⟩
  refine r_build2of3 (by conv => (lhs; whnf)) ?_
  refine r_store3 rfl (by conv => (lhs; whnf)) (hg.to k2) rfl rfl h2.one rfl ?_
  intro w3 k3 hg3
  repeat (first | refine r_nil ?_ | refine q_then ?_ | refine wp_ret ?_)
  refine end1 rfl (resV_agg (by conv => (lhs; whnf)) hg3 rfl) ⟨Keeps.past (k1.trans k2) k3 (by omega), m2, _, rfl, h2.wrT k3 (hg.to k2) (by decide), ?_⟩
  rw [bot_int]
  exact .nil
theorem bot_zero : bot 0 = 0 := rfl
theorem make0_c {S : Nat → Prop} {w : World} {z : Int} (hS : Up S w) :
    Gives Tryz.prog 18 [.int .i64 z, .int .i64 0] w fun v' w' => ∃ v, v' = .tuple #[v, .int .i64 6] ∧ Ext w w' ∧ RatV S w' v 0 := by
  refine gives_of Tryz.func18 rfl rfl rfl ?_
  repeat (first | refine wp_seq_region ?_ | refine wp_region ?_)
  refine r_alloc (cs := [.bool false, .slice none 0 0, .slice none 0 0]) rfl ?_
  intro w1 g k1 hg hgs
  repeat (first | refine wp_seq_region ?_ | refine wp_seq_seq ?_ | refine wp_region ?_ | refine r_move (by conv => (lhs; whnf)) ?_ | refine r_assign (by conv => (lhs; whnf)) ?_ | refine r_nil ?_ | refine q_then ?_ | refine r_eql rfl rfl ?_ | refine wp_cond_yes rfl (by omega) ?_)
  refine r_build0 (cs := [.bool false, .slice none 0 0, .slice none 0 0]) rfl ?_
  refine r_store3 rfl (by conv => (lhs; whnf)) hg rfl rfl rfl rfl ?_
  intro w3 k3 hg3
  repeat (first | refine r_assign (by conv => (lhs; whnf)) ?_ | refine r_nil ?_ | refine q_then ?_ | refine wp_ret ?_ | refine q_then_ret ?_)
  refine end2 rfl (resV_agg (by conv => (lhs; whnf)) hg3 rfl) (resV_tmp (by conv => (lhs; whnf))) ⟨_, rfl, Keeps.past k1 k3 (by omega), _, _, ?_, .nil, .nil⟩
  rw [tst_false (by decide)]
theorem mul_sgn_abs (a b : Int) (hb : b ≠ 0) : (a * b.sign).natAbs = a.natAbs := by
  rcases Int.lt_trichotomy b 0 with h | h | h
  · rw [Int.sign_eq_neg_one_of_neg h]; omega
  · exact absurd h hb
  · rw [Int.sign_eq_one_of_pos h]; omega
theorem mul_sgn_sign (a b : Int) (hb : b ≠ 0) : a * b.sign < 0 ↔ (¬ (a < 0 ↔ b < 0)) ∧ 0 < a.natAbs := by
  rcases Int.lt_trichotomy b 0 with h | h | h
  · rw [Int.sign_eq_neg_one_of_neg h]
    constructor
    · intro h1; exact ⟨fun x => by have := x.2 h; omega, by omega⟩
    · rintro ⟨h1, h2⟩
      have : ¬ a < 0 := fun x => h1 ⟨fun _ => h, fun _ => x⟩
      omega
  · exact absurd h hb
  · rw [Int.sign_eq_one_of_pos h]
    constructor
    · intro h1; exact ⟨fun x => by have := x.1 (by omega); omega, by omega⟩
    · rintro ⟨h1, h2⟩
      have : a < 0 := by
        rcases Int.lt_trichotomy a 0 with h3 | h3 | h3
        · exact h3
        · omega
        · exact absurd ⟨fun x => by omega, fun x => by omega⟩ h1
      omega
/-- The quotient of two int64s. -/
theorem make_c {S : Nat → Prop} {w : World} {a b : Int} (hS : Up S w) (ha0 : -9223372036854775808 ≤ a) (ha1 : a ≤ 9223372036854775807) (hb0 : -9223372036854775808 ≤ b) (hb1 : b ≤ 9223372036854775807) (hb : b ≠ 0) :
    Gives Tryz.prog 18 [.int .i64 a, .int .i64 b] w fun v' w' => ∃ v, v' = .tuple #[v, .int .i64 0] ∧ Ext w w' ∧ RatV S w' v (mkRat (a * b.sign) b.natAbs) := by
  refine gives_of Tryz.func18 rfl rfl rfl ?_
  repeat (first | refine wp_seq_region ?_ | refine wp_region ?_)
  refine r_alloc (cs := [.bool false, .slice none 0 0, .slice none 0 0]) rfl ?_
  intro w1 g k1 hg hgs
  repeat (first | refine wp_seq_region ?_ | refine wp_seq_seq ?_ | refine wp_region ?_ | refine r_move (by conv => (lhs; whnf)) ?_ | refine r_assign (by conv => (lhs; whnf)) ?_ | refine r_nil ?_ | refine q_then ?_ | refine wp_skip ?_ | refine r_eql rfl rfl ?_ | refine wp_cond_no rfl (by omega) ?_)
  refine r_call (whole_c (hS.to k1) ha0 ha1) rfl ?_
  rintro v2 w2 ⟨k2, m2, rfl, h2⟩
  repeat (first | refine r_move (by conv => (lhs; whnf)) ?_)
  refine r_call (whole_c (hS.to (k1.trans k2)) hb0 hb1) rfl ?_
  rintro v3 w3 ⟨k3, m3, rfl, h3⟩
  replace h2 := h2.to k3
  have hk2 := k2.size
  have hk3 := k3.size
  have hgl := hg.lt
  replace hg := hg.to (k2.trans k3)
  have k := (k1.trans k2).trans k3
  replace hS := hS.to k
  clear k1 k2 k3
  refine r_alloc (cs := [.bool false, .slice none 0 0]) rfl ?_
  intro w4 ga k4 hga hgsa
  refine r_alloc (cs := [.bool false, .slice none 0 0]) rfl ?_
  intro w5 gb k5 hgb hgsb
  have hgal := hga.lt
  replace hga := hga.to k5
  replace h2 := h2.to (k4.trans k5)
  replace h3 := h3.to (k4.trans k5)
  replace hg := hg.to (k4.trans k5)
  replace hS := hS.to (k4.trans k5)
  have hk4 := k4.size
  refine r_store2 rfl rfl hga rfl h2.one ?_
  intro w6 k6 hga6
  refine r_store2 rfl rfl (hgb.wr k6 (by omega)) rfl h3.one ?_
  intro w7 k7 hgb7
  have hgb6 := hgb.wr k6 (by omega)
  replace h2 := (h2.wrT k6 hga (by decide)).wrT k7 hgb6 (by decide)
  replace h3 := (h3.wrT k6 hga (by decide)).wrT k7 hgb6 (by decide)
  replace hg := (hg.wr k6 (by omega)).wr k7 (by omega)
  replace hga := hga6.wr k7 (by omega)
  replace hgb := hgb7
  replace k : Ext w w7 := (Keeps.past ((k.trans k4).trans k5) k6 (by have := k.size; omega)).past k7 (by have := k.size; omega)
  replace hS : Up S w7 := fun i hi => hS i (by have := k6.size; have := k7.size; omega)
  have hla : dl a.natAbs ≤ 3 := dl_le (by omega)
  have hlb : dl b.natAbs ≤ 3 := dl_le (by omega)
  clear k4 k5 k6 k7
  repeat (first | refine wp_seq_region ?_ | refine r_nil ?_)
  refine wp_drawn 11 (by kernel_rfl) (by kernel_rfl) ?_
  apply ob_step
  · intro x w1 k1 hd
    refine r_field rfl ?_
    refine r_nil ?_
    exact ob_eq
  apply ob_step
  · intro x w1 k1 hd
    refine r_load_blk rfl (hga.to k1) rfl ?_
    refine r_nil ?_
    exact ob_eq
  apply ob_step
  · intro x w1 k1 hd
    refine r_field rfl ?_
    refine r_nil ?_
    exact ob_eq
  apply ob_step
  · intro x w1 k1 hd
    refine r_load_blk rfl (hgb.to k1) rfl ?_
    refine r_nil ?_
    exact ob_eq
  apply ob_step
  · intro x w1 k1 hd
    refine r_neqB rfl rfl ?_
    refine r_nil ?_
    exact ob_eq
  apply ob_step
  · intro x w1 k1 hd
    refine r_field rfl ?_
    refine r_nil ?_
    exact ob_eq
  apply ob_step
  · intro x w1 k1 hd
    refine r_load_blk rfl (hga.to k1) rfl ?_
    refine r_nil ?_
    exact ob_eq
  refine ob_step (e := intE S 127 .u32 (a * b.sign)) ?_ ?_
  · intro x w1 k1 hd
    refine r_call (signed_c (a * b.sign) (h2.to k1) (mul_sgn_abs a b hb) (mul_sgn_sign a b hb)) rfl ?_
    rintro v2 w2 ⟨k2, h2⟩
    exact r_nil (ob_of k2 h2)
  apply ob_step
  · intro x w1 k1 hd
    refine r_field rfl ?_
    refine r_nil ?_
    exact ob_eq
  apply ob_step
  · intro x w1 k1 hd
    refine r_load_blk rfl (hgb.to k1) rfl ?_
    refine r_nil ?_
    exact ob_eq
  refine ob_step (e := ratE S (mkRat (a * b.sign) b.natAbs)) ?_ ?_
  · intro x w1 k1 hd
    refine r_call (reduced_c (hS.to k1) hd.2.2.1 (h3.to k1) (by omega) (by unfold zl; rw [mul_sgn_abs a b hb]; omega) (by omega)) rfl ?_
    rintro v2 w2 ⟨k2, h2⟩
    exact r_nil (ob_of k2 h2)
  refine ob_nil (ob_end ?_)
  intro x w8 k8 hall
  obtain ⟨m5, b5, hv5, h5, h6⟩ := hall.1
  refine r_store3 rfl hv5 (hg.to k8) rfl rfl h5.one h6.one ?_
  intro w9 k9 hg9
  repeat (first | refine r_assign (by conv => (lhs; whnf)) ?_ | refine r_nil ?_ | refine q_then ?_ | refine wp_ret ?_)
  exact end2 rfl (resV_agg (by conv => (lhs; whnf)) hg9 rfl) (resV_tmp (by conv => (lhs; whnf))) ⟨_, rfl, Keeps.past (k.trans k8) k9 (by omega), m5, b5, rfl, h5.wrT k9 (hg.to k8) (by decide), h6.wrT k9 (hg.to k8) (by decide)⟩
end Go.Proofs.YtpmnjjmngogkkaaGreatDoor
